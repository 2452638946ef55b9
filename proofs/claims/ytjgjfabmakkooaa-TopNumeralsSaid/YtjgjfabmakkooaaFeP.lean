/-
  What calls are, lending and adopting of memory, lists of operations sound. No condition.
-/
import Derived.Test.YtjgjfabmakkooaaFeH
set_option linter.unusedSimpArgs false
set_option linter.unusedVariables false
namespace Fe
open Go Go.RowKit

/-! ### Values that hang on no heap; lending -/
mutual
def V.ro : V → Bool
  | .yld _ => false
  | .mp _ => false
  | .cell _ _ _ => false
  | .view _ _ _ _ => false
  | .osl _ _ _ => false
  | .rptr cs _ => roL cs
  | .sl _ cs _ => roL cs
  | .fn _ a b => roL a && roL b
  | .agg cs => roL cs
  | .tup cs => roL cs
  | _ => true
def roL : List V → Bool
  | [] => true
  | v :: vs => v.ro && roL vs
end

mutual
def V.flat : V → Bool
  | .yld _ => false
  | .mp _ => false
  | .cell _ _ _ => false
  | .view _ _ _ _ => false
  | .osl _ _ _ => false
  | .rptr cs _ => cs.isEmpty
  | .sl _ cs _ => cs.isEmpty
  | .fn _ a b => flatL a && flatL b
  | .agg cs => flatL cs
  | .tup cs => flatL cs
  | _ => true
def flatL : List V → Bool
  | [] => true
  | v :: vs => v.flat && flatL vs
end

/-- May a result be? -/
def V.res1 : V → Bool
  | .osl _ cs _ => roL cs
  | v => v.ro
def V.res : V → Bool
  | .tup vs => vs.all V.res1
  | v => v.res1
/-- Does a result lead to no memory of others? -/
def V.loose1 : V → Bool
  | .osl _ cs _ => flatL cs
  | v => v.flat
def V.loose : V → Bool
  | .tup vs => vs.all V.loose1
  | v => v.loose1

mutual
def bor (H : Heap) : V → V
  | .cell k g off => match H[k]? with
    | some (.cells g' _ _ cs) => if g = g' then .rptr cs off else .cell k g off
    | _ => .cell k g off
  | .view k g off n => match H[k]? with
    | some (.cells g' esz _ cs) => if g = g' then .sl false ((cs.drop off).take (n * esz)) n else .view k g off n
    | _ => .view k g off n
  | .rptr cs off => .rptr (borL H cs) off
  | .sl ex cs n => .sl ex (borL H cs) n
  | .fn f a b => .fn f (borL H a) (borL H b)
  | .agg cs => .agg (borL H cs)
  | .tup cs => .tup (borL H cs)
  | v => v
def borL (H : Heap) : List V → List V
  | [] => []
  | v :: vs => bor H v :: borL H vs
end

mutual
def V.refs : V → List Nat
  | .cell k _ _ => [k]
  | .view k _ _ _ => [k]
  | .rptr cs _ => refsL cs
  | .sl _ cs _ => refsL cs
  | .fn _ a b => refsL a ++ refsL b
  | .agg cs => refsL cs
  | .tup cs => refsL cs
  | _ => []
def refsL : List V → List Nat
  | [] => []
  | v :: vs => v.refs ++ refsL vs
end

def HObj.freeze : HObj → HObj
  | .cells g e _ cs => .cells g e false cs
  | o => o
def freezeL (H : Heap) : List Nat → Heap
  | [] => H
  | k :: ks => freezeL (H.modify k HObj.freeze) ks

/-- Values lent out: what they are without the heap, and the heap behind. -/
def lend : Nat → Heap → List V → Heap × List V
  | 0, H, vs => (H, vs)
  | n + 1, H, vs => lend n (freezeL H (refsL vs)) (borL H vs)

def adopt1 (v : V) (H : Heap) : V × Heap :=
  match v with
  | .osl esz cs n => (.view H.length 0 0 n, H ++ [.cells 0 esz true cs])
  | v => (v, H)
def adoptL : List V → Heap → List V × Heap
  | [], H => ([], H)
  | v :: vs, H => ((adopt1 v H).1 :: (adoptL vs (adopt1 v H).2).1, (adoptL vs (adopt1 v H).2).2)
/-- A result's own memory comes to the heap. -/
def adopt (v : V) (H : Heap) : V × Heap :=
  match v with
  | .tup vs => (.tup (adoptL vs H).1, (adoptL vs H).2)
  | v => adopt1 v H

/-! ### Calls -/
def Enters (P : Program) (f : FuncId) : Prop := ∃ fn, P.funcs[f]? = some fn ∧ fn.body.isSome = true ∧ fn.name ≠ "runtime.NumGoroutine"

def ResRel (P : Program) (Bad : Nat → Prop) (w w' : World) (r : V) (c : Value) : Prop :=
  r.res = true ∧ ∃ ρ, HInv P Bad ρ (adopt r []).2 w' ∧ (∀ k, k < (adopt r []).2.length → w.heap.size ≤ ρ k) ∧ Rel ρ (adopt r []).2 (BadIn Bad ρ (adopt r []).2) w' (adopt r []).1 c

/-- A call that reads, and hands back what it made or read. -/
def Good (P : Program) (f : FuncId) (as : List V) (r : V) : Prop :=
  Enters P f ∧ ∀ (Bad : Nat → Prop) (w : World) (ca : Array Value), (∀ B, Bad B → B < w.heap.size) → Base P Bad w → ca.size = as.length →
    (∀ i (h : i < as.length), Rel (fun k => k) [] Bad w as[i] (ca.getD i undef)) →
    Calls P f ca w fun e w' => ∃ c, e = .returned c ∧ Below w.heap.size w w' ∧ ResRel P Bad w w' r c

/-- A call at a heap. -/
def Call2 (P : Program) (f : FuncId) (as : List V) (H : Heap) (K : V → Heap → Prop) : Prop :=
  Enters P f ∧ ∀ (Out : Nat → Prop) (ρ : Nat → Nat) (w : World) (ca : Array Value), HInv P Out ρ H w → ca.size = as.length →
    (∀ i (h : i < as.length), Rel ρ H (BadIn Out ρ H) w as[i] (ca.getD i undef)) →
    Calls P f ca w fun e w' => ∃ c r H' ρ', e = .returned c ∧ Tr ρ H w ρ' H' w' ∧ HInv P Out ρ' H' w' ∧ Rel ρ' H' (BadIn Out ρ' H') w' r c ∧ K r H'

/-- What a call of a function value comes to, where it touches nothing of the heap's but by lending. -/
def callD (P : Program) (fv : V) (as : List V) (H : Heap) (K : V → Heap → Prop) : Prop :=
  match fv with
  | .fn f first cap =>
    ∃ n r, roL (lend n H (first ++ as ++ cap)).2 = true ∧ Good P f (lend n H (first ++ as ++ cap)).2 r ∧
      K (adopt r (if r.loose = true then H else (lend n H (first ++ as ++ cap)).1)).1 (adopt r (if r.loose = true then H else (lend n H (first ++ as ++ cap)).1)).2
  | _ => False

/-- What a call of a function value comes to, where it sees no heap. -/
def callC (P : Program) (fv : V) (as : List V) (H : Heap) (K : V → Heap → Prop) : Prop :=
  match fv with
  | .fn f first cap => ∃ r, roL (first ++ as ++ cap) = true ∧ r.ro = true ∧ Good P f (first ++ as ++ cap) r ∧ K r H
  | _ => False

/-- A round of the loop k. -/
def Yld (P : Program) (k : Nat) (as : List V) (H : Heap) (K : V → Heap → Prop) : Prop :=
  k < H.length ∧ genOf H k = 0 ∧ ∀ (Out : Nat → Prop) (ρ : Nat → Nat) (w : World) (ca : Array Value), HInv P Out ρ H w → ca.size = as.length →
    (∀ i (h : i < as.length), Rel ρ H (BadIn Out ρ H) w as[i] (ca.getD i undef)) →
    ∃ f tmps A B, (Instr.yield (ρ k) ca).run P w = .ok (.round (ρ k) f tmps A B) w ∧ ∀ (F : Fence) (n : Nat), Wide P F →
      RoundIn F n P (ρ k) f tmps A B w fun e w' => ∃ c r H' ρ', e = .returned c ∧ Tr ρ H w ρ' H' w' ∧ HInv P Out ρ' H' w' ∧ Rel ρ' H' (BadIn Out ρ' H') w' r c ∧ K r H'

/-- What a call of a function value comes to. -/
def callP (P : Program) (fv : V) (as : List V) (H : Heap) (K : V → Heap → Prop) : Prop :=
  callD P fv as H K ∨ match fv with
  | .fn f first cap => Call2 P f (first ++ as ++ cap) H K
  | .yld k => Yld P k as H K
  | _ => False

/-! ### Running -/
def Env.put (e : Env) (d : Option Nat) (v : V) : Env :=
  match d with
  | some d => e.set d v
  | none => e

def wantB (v : V) (want : Bool) : Option Bool :=
  match v with
  | .bool b => some (b == want)
  | .tup _ => some false
  | _ => none
def wantedV (e : Env) : Option (Nat × Bool) → Option Bool
  | none => some true
  | some (t, want) => wantB (e t) want

def runOps (P : Program) (lim : Option Nat) : List Op → Env → Heap → (Env → Heap → Prop) → Prop
  | [], e, H, K => K e H
  | o :: os, e, H, K =>
    match wantedV e o.guard with
    | some true => match o.o with
      | .call true f as => callD P (f.ev e) (as.map (·.ev e)) H fun r H' => runOps P lim os (e.put o.dst r) H' K
      | .call false f as => callP P (f.ev e) (as.map (·.ev e)) H fun r H' => runOps P lim os (e.put o.dst r) H' K
      | .callc f as => callC P (f.ev e) (as.map (·.ev e)) H fun r H' => runOps P lim os (e.put o.dst r) H' K
      | .op o' => match stepO (lim.getD H.length) o' e H with
        | some p => runOps P lim os (e.put o.dst p.1) p.2 K
        | none => False
    | some false => runOps P lim os (e.put o.dst (.tup [])) H K
    | none => False

inductive Ex where
  | normal
  | exit (id : Nat)
  | ret
  deriving DecidableEq
def Ex.to : Ex → Exit
  | .normal => .normal
  | .exit id => .exit id
  | .ret => .ret

abbrev Cont := Ex → Env → Heap → Prop
def Cont.then (k : Env → Heap → Prop) (K : Cont) : Cont := fun x e H => match x with
  | .normal => k e H
  | x => K x e H
def Cont.block (id : Nat) (K : Cont) : Cont := fun x e H => match x with
  | .exit i => if i = id then K .normal e H else K (.exit i) e H
  | x => K x e H

/-- A range over a function has come to its end. -/
def afterRange (k : Nat) (S : Nat → List Nat → Code → Code → Prop) (ps : List Nat) (e : Env) (K : Cont) (H : Heap) : Prop :=
  ∃ st pend, H[k]? = some (.loop S ps e st pend) ∧ st ≠ .busy ∧ match pend with
    | none => K .normal e (H.set k (.loop S ps e .exhausted pend))
    | some .ret => K .ret e (H.set k (.loop S ps e .exhausted pend))
    | some (.exit id) => K (.exit id) e (H.set k (.loop S ps e .exhausted pend))
    | some _ => False

def run (P : Program) : C → Env → Heap → Cont → Prop
  | .skip, e, H, K => K .normal e H
  | .region draw ops, e, H, K => runOps P (if draw = true then some H.length else none) ops e H (K .normal)
  | .seq a b, e, H, K => run P a e H (K.then fun e H => run P b e H K)
  | .cond x a b, e, H, K => match x.ev e with
    | .bool t => (t = true → run P a e H K) ∧ (t = false → run P b e H K)
    | .anyb => run P a e H K ∧ run P b e H K
    | _ => False
  | .block id c, e, H, K => run P c e H (K.block id)
  | .loop c, e, H, K => ∃ (I : Nat → Env → Heap → Prop) (n : Nat), I n e H ∧ ∀ n e H, I n e H → run P c e H (K.then fun e' H' => ∃ m, m < n ∧ I m e' H')
  | .exit id, e, H, K => K (.exit id) e H
  | .ret, e, H, K => K .ret e H
  | .rangef g ps a c, e, H, K => (∃ f fi cp, g.ev e = .fn f fi cp) ∧ callP P (g.ev e) [.yld H.length] (H ++ [.loop (Strp P a c) ps e .ready none]) fun _ H' => afterRange H.length (Strp P a c) ps e K H'
  | .bad, _, _, _ => False

end Fe
namespace Fe
open Go Go.RowKit

section
variable {P : Program} {Out Bad : Nat → Prop} {ρ : Nat → Nat} {H : Heap} {w w' : World}

theorem roL_get : ∀ {l : List V}, roL l = true → ∀ i (h : i < l.length), l[i].ro = true
  | [], _, i, h => by simp at h
  | v :: vs, hr, i, h => by
    simp only [roL,Bool.and_eq_true] at hr
    cases i with
    | zero => exact hr.1
    | succ i => exact roL_get hr.2 i (by simpa using h)
theorem flatL_get : ∀ {l : List V}, flatL l = true → ∀ i (h : i < l.length), l[i].flat = true
  | [], _, i, h => by simp at h
  | v :: vs, hr, i, h => by
    simp only [flatL,Bool.and_eq_true] at hr
    cases i with
    | zero => exact hr.1
    | succ i => exact flatL_get hr.2 i (by simpa using h)
theorem roL_mem {l : List V} (h : roL l = true) : ∀ v ∈ l, v.ro = true := fun v hv => by
  obtain ⟨i, hi, rfl⟩ := List.mem_iff_getElem.1 hv
  exact roL_get h i hi
theorem roL_of {l : List V} (h : ∀ v ∈ l, v.ro = true) : roL l = true := by
  induction l with
  | nil => rfl
  | cons v vs ih =>
    simp only [roL,Bool.and_eq_true]
    exact ⟨h v (List.mem_cons_self ..), ih fun x hx => h x (List.mem_cons_of_mem _ hx)⟩
theorem borL_length (H : Heap) : ∀ l : List V, (borL H l).length = l.length
  | [] => rfl
  | v :: vs => by simp [borL, borL_length H vs]
theorem borL_get (H : Heap) : ∀ (l : List V) (i : Nat) (h : i < (borL H l).length) (h' : i < l.length), (borL H l)[i] = bor H l[i]
  | [], i, h, _ => by simp [borL] at h
  | v :: vs, 0, _, _ => rfl
  | v :: vs, i + 1, h, h' => by
    simp only [borL,List.getElem_cons_succ]
    exact borL_get H vs i _ (by simpa using h')
theorem refsL_mem : ∀ {l : List V} {i : Nat} (h : i < l.length) {k : Nat}, k ∈ l[i].refs → k ∈ refsL l
  | [], i, h, k, _ => by simp at h
  | v :: vs, 0, _, k, hk => by simp only [refsL,List.mem_append]; exact .inl hk
  | v :: vs, i + 1, h, k, hk => by
    simp only [refsL,List.mem_append]
    exact .inr (refsL_mem (l := vs) (i := i) (by simpa using h) hk)

/-- What hangs on no heap reads so beside any heap. -/
theorem Rel.ro_mono {ρ' : Nat → Nat} {H' : Heap} {Bad' : Nat → Prop} (hk : ∀ B, B < w.heap.size → ¬ Bad B → w'.heap[B]? = w.heap[B]?) (hb : ∀ B, B < w.heap.size → Bad' B → Bad B)
    {v : V} {c : Value} (h : Rel ρ H Bad w v c) (hr : v.ro = true) : Rel ρ' H' Bad' w' v c := by
  induction h with
  | bool b => exact .bool b
  | int k n => exact .int k n
  | str s => exact .str s
  | nilp => exact .nilp
  | cell => simp [V.ro] at hr
  | yld => simp [V.ro] at hr
  | mp => simp [V.ro] at hr
  | mnil => exact .mnil
  | view => simp [V.ro] at hr
  | rptr cs off B o f hc hrel hn ih =>
    simp only [V.ro] at hr
    refine .rptr cs off B o f (fun i hi => ?_) (fun i hi => ih i hi (roL_get hr i hi)) (fun hne hbad => ?_)
    · have := cell_lt (hc i hi)
      rw [cell_of_block (hk B this (hn (by rintro rfl; simp at hi)))]
      exact hc i hi
    · have : 0 < cs.length := List.length_pos_iff.2 hne
      exact hn hne (hb B (by have := cell_lt (hc 0 this); exact this) hbad)
  | sl ex cs n B o cap f hc hrel hn hle hex ih =>
    simp only [V.ro] at hr
    refine .sl ex cs n B o cap f (fun i hi => ?_) (fun i hi => ih i hi (roL_get hr i hi)) (fun hne hbad => ?_) hle hex
    · have := cell_lt (hc i hi)
      rw [cell_of_block (hk B this (hn (by rintro rfl; simp at hi)))]
      exact hc i hi
    · have : 0 < cs.length := List.length_pos_iff.2 hne
      exact hn hne (hb B (by have := cell_lt (hc 0 this); exact this) hbad)
  | slnil ex => exact .slnil ex
  | fn f fs cs fa ca h1 h2 _ _ ih1 ih2 =>
    simp only [V.ro,Bool.and_eq_true] at hr
    exact .fn f fs cs fa ca h1 h2 (fun i hi => ih1 i hi (roL_get hr.1 i hi)) (fun i hi => ih2 i hi (roL_get hr.2 i hi))
  | nilf => exact .nilf
  | agg cs arr h1 _ ih =>
    simp only [V.ro] at hr
    exact .agg cs arr h1 (fun i hi => ih i hi (roL_get hr i hi))
  | tup cs arr h1 _ ih =>
    simp only [V.ro] at hr
    exact .tup cs arr h1 (fun i hi => ih i hi (roL_get hr i hi))
  | und c => exact .und c
  | anyb b => exact .anyb b

theorem Rel.flat_mono {ρ' : Nat → Nat} {H' : Heap} {Bad' : Nat → Prop} {v : V} {c : Value} (h : Rel ρ H Bad w v c) (hr : v.flat = true) : Rel ρ' H' Bad' w' v c := by
  induction h with
  | bool b => exact .bool b
  | int k n => exact .int k n
  | str s => exact .str s
  | nilp => exact .nilp
  | cell => simp [V.flat] at hr
  | yld => simp [V.flat] at hr
  | mp => simp [V.flat] at hr
  | mnil => exact .mnil
  | view => simp [V.flat] at hr
  | rptr cs off B o f hc hrel hn ih =>
    simp only [V.flat,List.isEmpty_iff] at hr
    subst hr
    exact .rptr [] off B o f (fun i hi => by simp at hi) (fun i hi => by simp at hi) (fun h => absurd rfl h)
  | sl ex cs n B o cap f hc hrel hn hle hex ih =>
    simp only [V.flat,List.isEmpty_iff] at hr
    subst hr
    exact .sl ex [] n B o cap f (fun i hi => by simp at hi) (fun i hi => by simp at hi) (fun h => absurd rfl h) hle hex
  | slnil ex => exact .slnil ex
  | fn f fs cs fa ca h1 h2 _ _ ih1 ih2 =>
    simp only [V.flat,Bool.and_eq_true] at hr
    exact .fn f fs cs fa ca h1 h2 (fun i hi => ih1 i hi (flatL_get hr.1 i hi)) (fun i hi => ih2 i hi (flatL_get hr.2 i hi))
  | nilf => exact .nilf
  | agg cs arr h1 _ ih =>
    simp only [V.flat] at hr
    exact .agg cs arr h1 (fun i hi => ih i hi (flatL_get hr i hi))
  | tup cs arr h1 _ ih =>
    simp only [V.flat] at hr
    exact .tup cs arr h1 (fun i hi => ih i hi (flatL_get hr i hi))
  | und c => exact .und c
  | anyb b => exact .anyb b

/-! ### Lending -/
theorem freeze_freeze (o : HObj) : o.freeze.freeze = o.freeze := by cases o <;> rfl

theorem freezeL_get : ∀ (ks : List Nat) (H : Heap) (j : Nat), (freezeL H ks)[j]? = (H[j]?).map fun o => if j ∈ ks then o.freeze else o
  | [], H, j => by simp [freezeL]
  | k :: ks, H, j => by
    rw [freezeL, freezeL_get ks, List.getElem?_modify]
    cases hj : H[j]? with
    | none => by_cases h : k = j <;> simp [h]
    | some o =>
      by_cases h : k = j
      · subst h
        by_cases h2 : k ∈ ks <;> simp [h2, freeze_freeze]
      · have : ¬ j = k := fun e => h e.symm
        simp [h, this]

theorem freezeL_length (H : Heap) (ks : List Nat) : (freezeL H ks).length = H.length := by
  induction ks generalizing H with
  | nil => rfl
  | cons k ks ih => rw [freezeL, ih]; simp

theorem genOf_freeze (H : Heap) (ks : List Nat) (k : Nat) : genOf (freezeL H ks) k = genOf H k := by
  simp only [genOf,freezeL_get]
  cases H[k]? with
  | none => rfl
  | some o => simp only [Option.map_some]; split <;> cases o <;> rfl
theorem eszOf_freeze (H : Heap) (ks : List Nat) (k : Nat) : eszOf (freezeL H ks) k = eszOf H k := by
  simp only [eszOf,freezeL_get]
  cases H[k]? with
  | none => rfl
  | some o => simp only [Option.map_some]; split <;> cases o <;> rfl

theorem mut_freeze {ks : List Nat} {B : Nat} (h : Mut ρ (freezeL H ks) B) : Mut ρ H B := by
  obtain ⟨k, o, hk, hm, rfl⟩ := h
  rw [freezeL_get] at hk
  simp only [Option.map_eq_some_iff] at hk
  obtain ⟨o', ho', rfl⟩ := hk
  refine ⟨k, o', ho', ?_, rfl⟩
  split at hm
  · cases o' <;> simp_all [HObj.freeze, HObj.wr]
  · exact hm

theorem Tr.freeze (ρ : Nat → Nat) (H : Heap) (w : World) (ks : List Nat) : Tr ρ H w ρ (freezeL H ks) w where
  os := rfl
  tape := rfl
  output := rfl
  size := Nat.le_refl _
  keep := fun _ _ _ => rfl
  len := by rw [freezeL_length]; exact Nat.le_refl _
  gen := fun k _ => by rw [genOf_freeze]; exact Nat.le_refl _
  same := fun k _ _ => ⟨rfl, eszOf_freeze .., fun arr T fz h => ⟨arr, T, fz, h, rfl⟩⟩
  wrt := fun B _ h => mut_freeze h

theorem HInv.freeze (hI : HInv P Out ρ H w) (ks : List Nat) : HInv P Out ρ (freezeL H ks) w := by
  have t := Tr.freeze ρ H w ks
  refine ⟨hI.out, fun i j hi hj => hI.inj i j (by rw [freezeL_length] at hi; exact hi) (by rw [freezeL_length] at hj; exact hj), fun k hk => hI.lt k (by rw [freezeL_length] at hk; exact hk), fun k g e o cs hk => ?_, fun k s p hk => ?_, fun k S ps e st pend hk => ?_, fun k es hk => ?_, hI.base.step t⟩
  · rw [freezeL_get] at hk
    simp only [Option.map_eq_some_iff] at hk
    obtain ⟨o', ho', he⟩ := hk
    obtain ⟨g', e', own', cs', rfl⟩ : ∃ g' e' own' cs', o' = .cells g' e' own' cs' := by
      cases o' with
      | cells g' e' own' cs' => exact ⟨_, _, _, _, rfl⟩
      | iter s p => split at he <;> cases he
      | loop => split at he <;> cases he
      | map => split at he <;> cases he
    have hcs : cs' = cs := by split at he <;> cases he <;> rfl
    subst hcs
    obtain ⟨arr, T, h4, h5, h6⟩ := hI.cells k _ _ _ _ ho'
    exact ⟨arr, T, h4, h5, fun i hi => (h6 i hi).step t⟩
  · rw [freezeL_get] at hk
    simp only [Option.map_eq_some_iff] at hk
    obtain ⟨o', ho', he⟩ := hk
    have : o' = .iter s p := by
      cases o' with
      | cells => split at he <;> cases he
      | iter => split at he <;> exact he
      | loop => split at he <;> cases he
      | map => split at he <;> cases he
    subst this
    exact hI.iter k s p ho'
  · rw [freezeL_get] at hk
    simp only [Option.map_eq_some_iff] at hk
    obtain ⟨o', ho', he⟩ := hk
    have : o' = .loop S ps e st pend := by
      cases o' with
      | cells => split at he <;> cases he
      | iter => split at he <;> cases he
      | loop => split at he <;> exact he
      | map => split at he <;> cases he
    subst this
    exact (hI.loop k _ _ _ _ _ ho').mono (fun h => h.step t) rfl
  · rw [freezeL_get] at hk
    simp only [Option.map_eq_some_iff] at hk
    obtain ⟨o', ho', he⟩ := hk
    have : o' = .map es := by
      cases o' with
      | cells => split at he <;> cases he
      | iter => split at he <;> cases he
      | loop => split at he <;> cases he
      | map => split at he <;> exact he
    subst this
    exact (hI.map k _ ho').mono (fun h => h.step t) rfl

theorem bor_rel (hI : HInv P Out ρ H w) {ks : List Nat} {v : V} {c : Value} (h : Rel ρ H (BadIn Out ρ H) w v c) (hr : ∀ k ∈ v.refs, k ∈ ks) :
    Rel ρ (freezeL H ks) (BadIn Out ρ (freezeL H ks)) w (bor H v) c := by
  have t := Tr.freeze ρ H w ks
  have notbad : ∀ k g e o cs, H[k]? = some (HObj.cells g e o cs) → k ∈ ks → ¬ BadIn Out ρ (freezeL H ks) (ρ k) := by
    rintro k g e o cs hk hks (h1 | ⟨j, ob, hj, hm, he⟩)
    · exact (hI.lt k (getElem?_lt hk)).2 h1
    · have hjl := getElem?_lt hj
      rw [freezeL_length] at hjl
      have hjk := hI.inj j k hjl (getElem?_lt hk) he
      subst hjk
      rw [freezeL_get, hk] at hj
      simp only [Option.map_some,hks,if_true,Option.some.injEq] at hj
      subst hj
      simp [HObj.freeze, HObj.wr] at hm
  have hnb : ∀ B, B < w.heap.size → BadIn Out ρ (freezeL H ks) B → BadIn Out ρ H B := bad_mono t
  induction h with
  | bool b => exact .bool b
  | int k n => exact .int k n
  | str s => exact .str s
  | nilp => exact .nilp
  | cell k g off B hk hg hB =>
    have hks : k ∈ ks := hr k (by simp [V.refs])
    simp only [bor]
    split
    · rename_i g' e' o' cs hget
      split
      · rename_i hgg
        subst hgg
        obtain ⟨arr, T, h4, h5, h6⟩ := hI.cells k _ _ _ _ hget
        have hBk := hB (by simp [genOf, hget, HObj.gen])
        subst hBk
        have := Rel.rptr (ρ := ρ) (H := freezeL H ks) (Bad := BadIn Out ρ (freezeL H ks)) (w := w) cs off (ρ k) 0 (fun i => arr.getD i undef) (fun i hi => by
          simp only [World.cell?,h4,Nat.zero_add]
          simp [Array.getD, show i < arr.size by omega]) (fun i hi => (h6 i hi).step t) (fun _ => notbad k _ _ _ _ hget hks)
        rw [Nat.zero_add] at this
        exact this
      · exact (Rel.cell k g off B hk hg hB : Rel ρ H (BadIn Out ρ H) w _ _).step t
    · exact (Rel.cell k g off B hk hg hB : Rel ρ H (BadIn Out ρ H) w _ _).step t
  | view k g off n B cap hk hg hB hle =>
    have hks : k ∈ ks := hr k (by simp [V.refs])
    simp only [bor]
    split
    · rename_i g' e' o' cs hget
      split
      · rename_i hgg
        subst hgg
        obtain ⟨arr, T, h4, h5, h6⟩ := hI.cells k _ _ _ _ hget
        obtain ⟨hBk, _⟩ := hB (by simp [genOf, hget, HObj.gen])
        subst hBk
        refine .sl false _ _ (ρ k) off cap (fun i => arr.getD (off + i) undef) (fun i hi => ?_) (fun i hi => ?_) (fun _ => notbad k _ _ _ _ hget hks) hle (by simp)
        · simp only [List.length_take,List.length_drop] at hi
          simp only [World.cell?,h4]
          simp [Array.getD, show off + i < arr.size by omega]
        · simp only [List.length_take,List.length_drop] at hi
          have := (h6 (off + i) (by omega)).step t
          simpa using this
      · exact (Rel.view k g off n B cap hk hg hB hle : Rel ρ H (BadIn Out ρ H) w _ _).step t
    · exact (Rel.view k g off n B cap hk hg hB hle : Rel ρ H (BadIn Out ρ H) w _ _).step t
  | rptr cs off B o f hc hrel hn ih =>
    simp only [bor]
    refine .rptr _ off B o f (fun i hi => hc i (by rw [borL_length] at hi; exact hi)) (fun i hi => ?_) (fun hne hbad => ?_)
    · have hi' : i < cs.length := by rw [borL_length] at hi; exact hi
      rw [borL_get H cs i hi hi']
      exact ih i hi' (fun k hk => hr k (refsL_mem hi' hk))
    · have hne' : cs ≠ [] := by rintro rfl; exact hne rfl
      have : 0 < cs.length := List.length_pos_iff.2 hne'
      exact hn hne' (hnb B (by have := cell_lt (hc 0 this); exact this) hbad)
  | sl ex cs n B o cap f hc hrel hn hle hex ih =>
    simp only [bor]
    refine .sl ex _ n B o cap f (fun i hi => hc i (by rw [borL_length] at hi; exact hi)) (fun i hi => ?_) (fun hne hbad => ?_) hle hex
    · have hi' : i < cs.length := by rw [borL_length] at hi; exact hi
      rw [borL_get H cs i hi hi']
      exact ih i hi' (fun k hk => hr k (refsL_mem hi' hk))
    · have hne' : cs ≠ [] := by rintro rfl; exact hne rfl
      have : 0 < cs.length := List.length_pos_iff.2 hne'
      exact hn hne' (hnb B (by have := cell_lt (hc 0 this); exact this) hbad)
  | slnil ex => exact .slnil ex
  | fn f fs cs fa ca h1 h2 _ _ ih1 ih2 =>
    simp only [bor]
    refine .fn f _ _ fa ca (by rw [borL_length]; exact h1) (by rw [borL_length]; exact h2) (fun i hi => ?_) (fun i hi => ?_)
    · have hi' : i < fs.length := by rw [borL_length] at hi; exact hi
      rw [borL_get H fs i hi hi']
      exact ih1 i hi' (fun k hk => hr k (by simp only [V.refs,List.mem_append]; exact .inl (refsL_mem hi' hk)))
    · have hi' : i < cs.length := by rw [borL_length] at hi; exact hi
      rw [borL_get H cs i hi hi']
      exact ih2 i hi' (fun k hk => hr k (by simp only [V.refs,List.mem_append]; exact .inr (refsL_mem hi' hk)))
  | nilf => exact .nilf
  | agg cs arr h1 _ ih =>
    simp only [bor]
    refine .agg _ arr (by rw [borL_length]; exact h1) (fun i hi => ?_)
    have hi' : i < cs.length := by rw [borL_length] at hi; exact hi
    rw [borL_get H cs i hi hi']
    exact ih i hi' (fun k hk => hr k (refsL_mem hi' hk))
  | tup cs arr h1 _ ih =>
    simp only [bor]
    refine .tup _ arr (by rw [borL_length]; exact h1) (fun i hi => ?_)
    have hi' : i < cs.length := by rw [borL_length] at hi; exact hi
    rw [borL_get H cs i hi hi']
    exact ih i hi' (fun k hk => hr k (refsL_mem hi' hk))
  | und c => exact .und c
  | anyb b => exact .anyb b
  | yld k B hk hB => exact (Rel.yld k B hk hB : Rel ρ H (BadIn Out ρ H) w _ _).step t
  | mp k B hk hB => exact (Rel.mp k B hk hB : Rel ρ H (BadIn Out ρ H) w _ _).step t
  | mnil => exact .mnil

theorem lend_rel : ∀ (n : Nat) {H : Heap} {vs : List V} {ca : Array Value}, HInv P Out ρ H w → ca.size = vs.length → (∀ i (h : i < vs.length), Rel ρ H (BadIn Out ρ H) w vs[i] (ca.getD i undef)) →
    HInv P Out ρ (lend n H vs).1 w ∧ Tr ρ H w ρ (lend n H vs).1 w ∧ (lend n H vs).2.length = vs.length ∧
      ∀ i (h : i < (lend n H vs).2.length), Rel ρ (lend n H vs).1 (BadIn Out ρ (lend n H vs).1) w (lend n H vs).2[i] (ca.getD i undef)
  | 0, H, vs, ca, hI, hs, hr => ⟨hI, .refl _ _ _, rfl, hr⟩
  | n + 1, H, vs, ca, hI, hs, hr => by
    simp only [lend]
    have h1 : ∀ i (h : i < (borL H vs).length), Rel ρ (freezeL H (refsL vs)) (BadIn Out ρ (freezeL H (refsL vs))) w (borL H vs)[i] (ca.getD i undef) := by
      intro i hi
      have hi' : i < vs.length := by rw [borL_length] at hi; exact hi
      rw [borL_get H vs i hi hi']
      exact bor_rel hI (hr i hi') (fun k hk => refsL_mem hi' hk)
    obtain ⟨h2, h3, h4, h5⟩ := lend_rel n (hI.freeze (refsL vs)) (by rw [borL_length]; exact hs) h1
    exact ⟨h2, (Tr.freeze ρ H w _).trans h3, by rw [h4, borL_length], h5⟩

end
end Fe
namespace Fe
open Go Go.RowKit

section
variable {P : Program} {Out Bad : Nat → Prop} {ρ : Nat → Nat} {H : Heap} {w w' : World}

/-! ### What comes to the heap -/
def shift1 (n : Nat) : V → V
  | .view k g off m => .view (k + n) g off m
  | v => v

/-- The blocks of what is adopted: each a new one of the call's own. -/
def Fresh (H : Heap) : Prop := ∀ (k : Nat) (o : HObj), H[k]? = some o → ∃ esz cs, o = HObj.cells 0 esz true cs ∧ roL cs = true

theorem adopt1_eq (v : V) (h : v.res1 = true) (H : Heap) : adopt1 v H = (shift1 H.length (adopt1 v []).1, H ++ (adopt1 v []).2) := by
  cases v <;> simp_all [adopt1, shift1, V.res1, V.ro]

theorem adopt1_fresh (v : V) (h : v.res1 = true) : Fresh (adopt1 v []).2 := by
  intro k o hk
  cases v with
  | osl esz cs n =>
    simp only [adopt1,List.nil_append] at hk
    have : k = 0 := by have := getElem?_lt hk; simpa using this
    subst this
    simp at hk
    exact ⟨esz, cs, hk.symm, h⟩
  | _ => simp [adopt1] at hk

theorem shift_shift (m n : Nat) (v : V) : shift1 m (shift1 n v) = shift1 (n + m) v := by
  cases v <;> simp [shift1, Nat.add_assoc]

theorem adoptL_eq : ∀ (vs : List V), (∀ v ∈ vs, V.res1 v = true) → ∀ H, adoptL vs H = ((adoptL vs []).1.map (shift1 H.length), H ++ (adoptL vs []).2)
  | [], _, H => by simp [adoptL]
  | v :: vs, h, H => by
    have h1 := h v (List.mem_cons_self ..)
    have h2 : ∀ x ∈ vs, V.res1 x = true := fun x hx => h x (List.mem_cons_of_mem _ hx)
    simp only [adoptL]
    rw [adopt1_eq v h1 H]
    simp only
    rw [adoptL_eq vs h2 (H ++ (adopt1 v []).2), adoptL_eq vs h2 (adopt1 v []).2]
    simp [List.map_map, Function.comp_def, shift_shift, Nat.add_comm]

theorem adoptL_fresh : ∀ (vs : List V), (∀ v ∈ vs, V.res1 v = true) → Fresh (adoptL vs []).2
  | [], _ => by intro k o hk; simp [adoptL] at hk
  | v :: vs, h => by
    have h1 := h v (List.mem_cons_self ..)
    have h2 : ∀ x ∈ vs, V.res1 x = true := fun x hx => h x (List.mem_cons_of_mem _ hx)
    simp only [adoptL]
    rw [adoptL_eq vs h2 (adopt1 v []).2]
    intro k o hk
    simp only at hk
    rcases Nat.lt_or_ge k (adopt1 v []).2.length with h3 | h3
    · rw [List.getElem?_append_left h3] at hk
      exact adopt1_fresh v h1 k o hk
    · rw [List.getElem?_append_right h3] at hk
      exact adoptL_fresh vs h2 _ o hk

theorem res_tup {vs : List V} (h : (V.tup vs).res = true) : ∀ v ∈ vs, V.res1 v = true := by
  simpa [V.res, List.all_eq_true] using h

theorem tup_or (r : V) : (∃ vs, r = .tup vs) ∨ ((∀ H, adopt r H = adopt1 r H) ∧ r.res = r.res1 ∧ r.loose = r.loose1) := by
  cases r with
  | tup vs => exact .inl ⟨vs, rfl⟩
  | _ => exact .inr ⟨fun _ => rfl, rfl, rfl⟩

theorem adopt_fresh (r : V) (h : r.res = true) : Fresh (adopt r []).2 := by
  rcases tup_or r with ⟨vs, rfl⟩ | ⟨ha, hr, _⟩
  · exact adoptL_fresh vs (res_tup h)
  · rw [ha]; exact adopt1_fresh _ (hr ▸ h)

theorem adopt_heap (r : V) (h : r.res = true) (H : Heap) : (adopt r H).2 = H ++ (adopt r []).2 := by
  rcases tup_or r with ⟨vs, rfl⟩ | ⟨ha, hr, _⟩
  · simp only [adopt]; rw [adoptL_eq vs (res_tup h) H]
  · rw [ha, ha, adopt1_eq _ (hr ▸ h) H]

def joinρ (ρ ρ' : Nat → Nat) (n : Nat) : Nat → Nat := fun k => if k < n then ρ k else ρ' (k - n)

theorem Tr.below (hI : HInv P Out ρ H w) (h : Below w.heap.size w w') : Tr ρ H w ρ H w' where
  os := h.os
  tape := h.tape
  output := h.output
  size := h.size
  keep := fun B hB _ => h.block B hB
  len := Nat.le_refl _
  gen := fun k hk => Nat.le_refl _
  same := fun k hk _ => ⟨rfl, rfl, fun arr T fz hc => ⟨arr, T, fz, by rw [← h.block _ (hI.lt k hk).1]; exact hc, rfl⟩⟩
  wrt := fun B hB hm => hm

theorem HInv.below (hI : HInv P Out ρ H w) (h : Below w.heap.size w w') : HInv P Out ρ H w' :=
  hI.kept (.below hI h) fun k hk => h.block _ (hI.lt k hk).1

theorem mut_join {ρ' : Nat → Nat} {H' : Heap} {B : Nat} : Mut (joinρ ρ ρ' H.length) (H ++ H') B ↔ Mut ρ H B ∨ Mut ρ' H' B := by
  constructor
  · rintro ⟨k, o, hk, hm, rfl⟩
    rcases Nat.lt_or_ge k H.length with h | h
    · rw [List.getElem?_append_left h] at hk
      exact .inl ⟨k, o, hk, hm, by simp [joinρ, h]⟩
    · rw [List.getElem?_append_right h] at hk
      exact .inr ⟨_, o, hk, hm, by simp [joinρ, Nat.not_lt.2 h]⟩
  · rintro (⟨k, o, hk, hm, rfl⟩ | ⟨k, o, hk, hm, rfl⟩)
    · have := getElem?_lt hk
      exact ⟨k, o, by rw [List.getElem?_append_left this]; exact hk, hm, by simp [joinρ, this]⟩
    · refine ⟨k + H.length, o, by rw [List.getElem?_append_right (by omega)]; simpa using hk, hm, by simp only [joinρ]; rw [if_neg (by omega)]; simp⟩

theorem bad_join {ρ' : Nat → Nat} {H' : Heap} {B : Nat} : BadIn Out (joinρ ρ ρ' H.length) (H ++ H') B ↔ BadIn (BadIn Out ρ H) ρ' H' B := by
  simp only [BadIn,mut_join,or_assoc]

theorem join_sound {ρ' : Nat → Nat} {H' : Heap} (hI : HInv P Out ρ H w) (hb : Below w.heap.size w w') (hI' : HInv P (BadIn Out ρ H) ρ' H' w') (hn : ∀ k, k < H'.length → w.heap.size ≤ ρ' k) (hf : Fresh H') :
    Tr ρ H w (joinρ ρ ρ' H.length) (H ++ H') w' ∧ HInv P Out (joinρ ρ ρ' H.length) (H ++ H') w' := by
  have t : Tr ρ H w (joinρ ρ ρ' H.length) (H ++ H') w' := by
    refine ⟨hb.os, hb.tape, hb.output, hb.size, fun B hB _ => hb.block B hB, by simp, fun k hk => ?_, fun k hk _ => ?_, fun B hB hm => ?_⟩
    · simp [genOf, List.getElem?_append_left hk]
    · exact ⟨by simp [joinρ, hk], by simp [eszOf, List.getElem?_append_left hk], fun arr T fz hc => ⟨arr, T, fz, by rw [← hb.block _ (hI.lt k hk).1]; exact hc, rfl⟩⟩
    · rcases mut_join.1 hm with h | ⟨k, o, hk, _, rfl⟩
      · exact h
      · have := hn k (getElem?_lt hk); omega
  refine ⟨t, fun B hB => Nat.lt_of_lt_of_le (hI.out B hB) hb.size, fun i j hi hj he => ?_, fun k hk => ?_, fun k g e o cs hk => ?_, fun k s p hk => ?_, fun k S ps e st pend hk => ?_, fun k es hk => ?_, hI.base.step t⟩
  · simp only [List.length_append] at hi hj
    simp only [joinρ] at he
    by_cases h1 : i < H.length <;> by_cases h2 : j < H.length
    · rw [if_pos h1, if_pos h2] at he; exact hI.inj i j h1 h2 he
    · rw [if_pos h1, if_neg h2] at he
      have := (hI.lt i h1).1
      have := hn (j - H.length) (by omega)
      omega
    · rw [if_neg h1, if_pos h2] at he
      have := (hI.lt j h2).1
      have := hn (i - H.length) (by omega)
      omega
    · rw [if_neg h1, if_neg h2] at he
      have := hI'.inj _ _ (by omega) (by omega) he
      omega
  · simp only [List.length_append] at hk
    simp only [joinρ]
    split
    · rename_i h
      have := hI.lt k h
      exact ⟨Nat.lt_of_lt_of_le this.1 hb.size, this.2⟩
    · have := hI'.lt (k - H.length) (by omega)
      exact ⟨this.1, fun h => this.2 (.inl h)⟩
  · rcases Nat.lt_or_ge k H.length with h | h
    · rw [List.getElem?_append_left h] at hk
      obtain ⟨arr, T, h4, h5, h6⟩ := hI.cells k _ _ _ _ hk
      refine ⟨arr, T, by simp only [joinρ,if_pos h]; rw [hb.block _ (hI.lt k h).1]; exact h4, h5, fun i hi => (h6 i hi).step t⟩
    · rw [List.getElem?_append_right h] at hk
      obtain ⟨arr, T, h4, h5, h6⟩ := hI'.cells _ _ _ _ _ hk
      obtain ⟨esz, cs', he, hro⟩ := hf _ _ hk
      cases he
      refine ⟨arr, T, by simp only [joinρ,if_neg (Nat.not_lt.2 h)]; exact h4, h5, fun i hi => ?_⟩
      exact (h6 i hi).ro_mono (fun _ _ _ => rfl) (fun B _ hB => bad_join.1 hB) (roL_get hro i hi)
  · rcases Nat.lt_or_ge k H.length with h | h
    · rw [List.getElem?_append_left h] at hk
      obtain ⟨ba, h4, h5⟩ := hI.iter k s p hk
      exact ⟨ba, h4, by simp only [joinρ,if_pos h]; rw [hb.block _ (hI.lt k h).1]; exact h5⟩
    · rw [List.getElem?_append_right h] at hk
      obtain ⟨_, _, he, _⟩ := hf _ _ hk
      cases he
  · rcases Nat.lt_or_ge k H.length with h | h
    · rw [List.getElem?_append_left h] at hk
      have := hI.loop k _ _ _ _ _ hk
      exact this.mono (fun h => h.step t) (by simp only [joinρ,if_pos h]; exact hb.block _ (hI.lt k h).1)
    · rw [List.getElem?_append_right h] at hk
      obtain ⟨_, _, he, _⟩ := hf _ _ hk
      cases he
  · rcases Nat.lt_or_ge k H.length with h | h
    · rw [List.getElem?_append_left h] at hk
      have := hI.map k _ hk
      exact this.mono (fun h => h.step t) (by simp only [joinρ,if_pos h]; exact hb.block _ (hI.lt k h).1)
    · rw [List.getElem?_append_right h] at hk
      obtain ⟨_, _, he, _⟩ := hf _ _ hk
      cases he

theorem shift_rel {ρ' : Nat → Nat} {H' : Heap} {v : V} {c : Value} (h : Rel ρ' H' (BadIn (BadIn Out ρ H) ρ' H') w v c) (hv : v.ro = true ∨ ∃ k g off m, v = .view k g off m) :
    Rel (joinρ ρ ρ' H.length) (H ++ H') (BadIn Out (joinρ ρ ρ' H.length) (H ++ H')) w (shift1 H.length v) c := by
  rcases hv with hv | ⟨k, g, off, m, rfl⟩
  · have : shift1 H.length v = v := by cases v <;> simp_all [shift1, V.ro]
    rw [this]
    exact h.ro_mono (fun _ _ _ => rfl) (fun B _ hB => bad_join.1 hB) hv
  · cases h with
    | view _ _ _ _ B cap h1 h2 h3 h4 =>
    have e0 : (H ++ H')[k + H.length]? = H'[k]? := by rw [List.getElem?_append_right (by omega)]; simp
    have e1 : genOf (H ++ H') (k + H.length) = genOf H' k := by simp only [genOf,e0]
    have e2 : eszOf (H ++ H') (k + H.length) = eszOf H' k := by simp only [eszOf,e0]
    have e3 : joinρ ρ ρ' H.length (k + H.length) = ρ' k := by simp only [joinρ]; rw [if_neg (by omega)]; simp
    refine .view _ _ _ _ B cap (by simp; omega) (by rw [e1]; exact h2) (fun hg => ?_) h4
    rw [e1] at hg
    rw [e3, e2]
    exact h3 hg

theorem adopt1_vals (v : V) (h : v.res1 = true) : (adopt1 v []).1.ro = true ∨ ∃ k g off m, (adopt1 v []).1 = .view k g off m := by
  cases v <;> simp_all [adopt1, V.res1]

theorem adoptL_vals : ∀ (vs : List V), (∀ v ∈ vs, V.res1 v = true) → ∀ x ∈ (adoptL vs []).1, x.ro = true ∨ ∃ k g off m, x = V.view k g off m
  | [], _, x, hx => by simp [adoptL] at hx
  | v :: vs, h, x, hx => by
    have h1 := h v (List.mem_cons_self ..)
    have h2 : ∀ x ∈ vs, V.res1 x = true := fun x hx => h x (List.mem_cons_of_mem _ hx)
    simp only [adoptL,List.mem_cons] at hx
    rcases hx with rfl | hx
    · exact adopt1_vals v h1
    · rw [adoptL_eq vs h2] at hx
      simp only [List.mem_map] at hx
      obtain ⟨y, hy, rfl⟩ := hx
      rcases adoptL_vals vs h2 y hy with h3 | ⟨k, g, off, m, rfl⟩
      · left; cases y <;> simp_all [shift1, V.ro]
      · exact .inr ⟨_, _, _, _, rfl⟩

/-- A result comes to the caller's heap. -/
theorem adopt_sound {r : V} {c : Value} (hI : HInv P Out ρ H w) (hb : Below w.heap.size w w') (hr : ResRel P (BadIn Out ρ H) w w' r c) :
    ∃ ρ', Tr ρ H w ρ' (adopt r H).2 w' ∧ HInv P Out ρ' (adopt r H).2 w' ∧ Rel ρ' (adopt r H).2 (BadIn Out ρ' (adopt r H).2) w' (adopt r H).1 c := by
  obtain ⟨hres, ρ', hI', hn, hrel⟩ := hr
  have hf := adopt_fresh r hres
  obtain ⟨t, hI2⟩ := join_sound hI hb hI' hn hf
  rw [adopt_heap r hres H]
  refine ⟨joinρ ρ ρ' H.length, t, hI2, ?_⟩
  rcases tup_or r with ⟨vs, rfl⟩ | ⟨ha, hr, _⟩
  · have hvs := res_tup hres
    have hvals := adoptL_vals vs hvs
    simp only [adopt] at hrel ⊢
    rw [adoptL_eq vs hvs H]
    simp only
    cases hrel with
    | tup _ arr h1 h2 =>
    refine .tup _ arr (by simpa using h1) (fun i hi => ?_)
    simp only [List.length_map] at hi
    simp only [List.getElem_map]
    exact shift_rel (h2 i hi) (hvals _ (List.getElem_mem hi))
  · rw [hr] at hres
    rw [ha] at hrel ⊢
    rw [ha H, adopt1_eq _ hres H]
    exact shift_rel hrel (adopt1_vals _ hres)

/-- A result that leads to nobody's memory may come to any heap. -/
theorem ResRel.loosen {Bad' : Nat → Prop} {r : V} {c : Value} (hr : ResRel P Bad w w' r c) (hl : r.loose = true) (hb : ∀ B, Bad' B → B < w.heap.size) (hs : w.heap.size ≤ w'.heap.size) (hB' : Base P Bad' w) (hbl : Below w.heap.size w w') : ResRel P Bad' w w' r c := by
  obtain ⟨hres, ρ, hI, hn, hrel⟩ := hr
  have hfl1 : ∀ (v : V), v.res1 = true → v.loose1 = true → (∀ (k : Nat) (o : HObj), (adopt1 v []).2[k]? = some o → ∃ esz cs, o = HObj.cells 0 esz true cs ∧ flatL cs = true) ∧ ((adopt1 v []).1.flat = true ∨ ∃ k g off m, (adopt1 v []).1 = .view k g off m) := by
    intro v h1 h2
    cases v with
    | osl esz cs n =>
      refine ⟨fun k o hk => ?_, .inr ⟨_, _, _, _, rfl⟩⟩
      simp only [adopt1,List.nil_append] at hk
      have : k = 0 := by have := getElem?_lt hk; simpa using this
      subst this
      simp at hk
      exact ⟨esz, cs, hk.symm, h2⟩
    | _ => exact ⟨fun k o hk => by simp [adopt1] at hk, .inl h2⟩
  have hflL : ∀ (vs : List V), (∀ v ∈ vs, V.res1 v = true) → (∀ v ∈ vs, V.loose1 v = true) → (∀ (k : Nat) (o : HObj), (adoptL vs []).2[k]? = some o → ∃ esz cs, o = HObj.cells 0 esz true cs ∧ flatL cs = true) ∧
      ∀ x ∈ (adoptL vs []).1, x.flat = true ∨ ∃ k g off m, x = V.view k g off m := by
    intro vs
    induction vs with
    | nil => intro _ _; exact ⟨fun k o hk => by simp [adoptL] at hk, fun x hx => by simp [adoptL] at hx⟩
    | cons v vs ih =>
      intro h1 h2
      have a1 := h1 v (List.mem_cons_self ..)
      have a2 : ∀ x ∈ vs, V.res1 x = true := fun x hx => h1 x (List.mem_cons_of_mem _ hx)
      obtain ⟨b1, b2⟩ := hfl1 v a1 (h2 v (List.mem_cons_self ..))
      obtain ⟨c1, c2⟩ := ih a2 (fun x hx => h2 x (List.mem_cons_of_mem _ hx))
      simp only [adoptL]
      rw [adoptL_eq vs a2]
      refine ⟨fun k o hk => ?_, fun x hx => ?_⟩
      · simp only at hk
        rcases Nat.lt_or_ge k (adopt1 v []).2.length with h3 | h3
        · rw [List.getElem?_append_left h3] at hk
          exact b1 k o hk
        · rw [List.getElem?_append_right h3] at hk
          exact c1 _ o hk
      · simp only [List.mem_cons,List.mem_map] at hx
        rcases hx with rfl | ⟨y, hy, rfl⟩
        · exact b2
        · rcases c2 y hy with h3 | ⟨k, g, off, m, rfl⟩
          · left; cases y <;> simp_all [shift1, V.flat]
          · exact .inr ⟨_, _, _, _, rfl⟩
  have hfl : (∀ (k : Nat) (o : HObj), (adopt r []).2[k]? = some o → ∃ esz cs, o = HObj.cells 0 esz true cs ∧ flatL cs = true) := by
    rcases tup_or r with ⟨vs, rfl⟩ | ⟨ha, hr, hlo⟩
    · exact (hflL vs (res_tup hres) (by simpa [V.loose, List.all_eq_true] using hl)).1
    · rw [ha]; exact (hfl1 _ (hr ▸ hres) (hlo ▸ hl)).1
  have hI' : HInv P Bad' ρ (adopt r []).2 w' := by
    refine ⟨fun B hB => Nat.lt_of_lt_of_le (hb B hB) hs, hI.inj, fun k hk => ⟨(hI.lt k hk).1, fun h => by have := hb _ h; have := hn k hk; omega⟩, fun k g e o cs hk => ?_, fun k s p hk => ?_, fun k S ps e st pend hk => ?_, fun k es hk => ?_, hB'.same hs (fun B hB _ => hbl.block B hB) ?_⟩
    · obtain ⟨arr, T, h4, h5, h6⟩ := hI.cells k _ _ _ _ hk
      obtain ⟨_, _, he, hf⟩ := hfl _ _ hk
      cases he
      exact ⟨arr, T, h4, h5, fun i hi => (h6 i hi).flat_mono (flatL_get hf i hi)⟩
    · obtain ⟨_, _, he, hf⟩ := hfl _ _ hk
      cases he
    · obtain ⟨_, _, he, hf⟩ := hfl _ _ hk
      cases he
    · obtain ⟨_, _, he, hf⟩ := hfl _ _ hk
      cases he
    · rintro B hB (h | ⟨k, o, hk, _, rfl⟩)
      · exact h
      · have := hn k (getElem?_lt hk); omega
  refine ⟨hres, ρ, hI', hn, ?_⟩
  have one : ∀ {v : V} {c : Value}, Rel ρ (adopt r []).2 (BadIn Bad ρ (adopt r []).2) w' v c → (v.flat = true ∨ ∃ k g off m, v = .view k g off m) → Rel ρ (adopt r []).2 (BadIn Bad' ρ (adopt r []).2) w' v c := by
    intro v c h hv
    rcases hv with hv | ⟨k, g, off, m, rfl⟩
    · exact h.flat_mono hv
    · cases h with
      | view _ _ _ _ B cap h1 h2 h3 h4 => exact .view _ _ _ _ B cap h1 h2 h3 h4
  rcases tup_or r with ⟨vs, rfl⟩ | ⟨ha, hr, hlo⟩
  · have hvals := (hflL vs (res_tup hres) (by simpa [V.loose, List.all_eq_true] using hl)).2
    simp only [adopt] at hrel one ⊢
    cases hrel with
    | tup _ arr h1 h2 => exact .tup _ arr h1 (fun i hi => one (h2 i hi) (hvals _ (List.getElem_mem hi)))
  · rw [ha] at hrel one ⊢
    exact one hrel (hfl1 _ (hr ▸ hres) (hlo ▸ hl)).2

end
end Fe
namespace Fe
open Go Go.RowKit

section
variable {P : Program} {Out Bad : Nat → Prop} {ρ : Nat → Nat} {H : Heap} {w w' : World} {e : Env} {a : Act} {o : Oper}

/-- What a call must come to. -/
def CallPost (P : Program) (Out : Nat → Prop) (ρ : Nat → Nat) (H : Heap) (w : World) (K : V → Heap → Prop) : Ending → World → Prop := fun e w' =>
  ∃ c r H' ρ', e = .returned c ∧ Tr ρ H w ρ' H' w' ∧ HInv P Out ρ' H' w' ∧ Rel ρ' H' (BadIn Out ρ' H') w' r c ∧ K r H'

theorem rel_append {l m : List V} {p q : Array Value} (hp : p.size = l.length) (h1 : ∀ i (h : i < l.length), Rel ρ H Bad w l[i] (p.getD i undef))
    (hq : q.size = m.length) (h2 : ∀ i (h : i < m.length), Rel ρ H Bad w m[i] (q.getD i undef)) : (p ++ q).size = (l ++ m).length ∧ ∀ i (h : i < (l ++ m).length), Rel ρ H Bad w (l ++ m)[i] ((p ++ q).getD i undef) := by
  refine ⟨by simp [hp, hq], fun i hi => ?_⟩
  simp only [List.length_append] at hi
  rcases Nat.lt_or_ge i l.length with h | h
  · rw [List.getElem_append_left h, getD_append_left (by omega)]
    exact h1 i h
  · rw [List.getElem_append_right h, getD_append_right (by omega) (by omega), hp]
    exact h2 _ (by omega)

theorem callP_calls {fv : V} {as : List V} {K : V → Heap → Prop} {cf : Value} {ca : Array Value} (hI : HInv P Out ρ H w) (h : callP P fv as H K) (hf : Rel ρ H (BadIn Out ρ H) w fv cf)
    (hs : ca.size = as.length) (hr : ∀ i (h : i < as.length), Rel ρ H (BadIn Out ρ H) w as[i] (ca.getD i undef)) :
    (∃ f fi cp, cf = .func (.func f) fi cp ∧ Enters P f ∧ Calls P f (fi ++ ca ++ cp) w (CallPost P Out ρ H w K)) ∨
    ∃ l f tmps A B, cf = .func (.yield l) #[] #[] ∧ (Instr.yield l ca).run P w = .ok (.round l f tmps A B) w ∧ ∀ (F : Fence) (n : Nat), Wide P F → RoundIn F n P l f tmps A B w (CallPost P Out ρ H w K) := by
  cases fv with
  | yld k =>
    cases hf with
    | yld _ B hk hB =>
    simp only [callP,callD,false_or] at h
    obtain ⟨_, hg, h⟩ := h
    have hBk := hB hg
    subst hBk
    obtain ⟨f, tmps, A, B, h1, h2⟩ := h Out ρ w ca hI hs hr
    exact .inr ⟨ρ k, f, tmps, A, B, rfl, h1, fun F n hF => (h2 F n hF).mono fun e w' ⟨c, r, H', ρ', he, t, hI', hrel, hK⟩ => ⟨c, r, H', ρ', he, t, hI', hrel, hK⟩⟩
  | fn f first cap =>
    left
    cases hf with
    | fn _ _ _ fi cp h1 h2 h3 h4 =>
    obtain ⟨a1, a2⟩ := rel_append h1 h3 hs hr
    obtain ⟨b1, b2⟩ := rel_append a1 a2 h2 h4
    simp only [callP,callD] at h
    rcases h with ⟨n, r, hro, hg, hK⟩ | h
    · obtain ⟨l1, l2, l3, l4⟩ := lend_rel n hI b1 b2
      obtain ⟨hen, hgood⟩ := hg
      refine ⟨f, fi, cp, rfl, hen, ?_⟩
      have hbad : ∀ B, BadIn Out ρ (lend n H (first ++ as ++ cap)).1 B → B < w.heap.size := by
        rintro B (h5 | ⟨k, ob, hk, _, rfl⟩)
        · exact l1.out B h5
        · exact (l1.lt k (getElem?_lt hk)).1
      refine (hgood (BadIn Out ρ (lend n H (first ++ as ++ cap)).1) w (fi ++ ca ++ cp) hbad l1.base (by rw [l3]; exact b1)
        (fun i hi => (l4 i hi).ro_mono (fun _ _ _ => rfl) (fun _ _ h => h) (roL_get hro i hi))).mono ?_
      rintro e w' ⟨c, rfl, hb, hres⟩
      by_cases hl : r.loose = true
      · rw [if_pos hl] at hK
        have hres' : ResRel P (BadIn Out ρ H) w w' r c := hres.loosen hl (fun B hB => by
          rcases hB with h5 | ⟨k, ob, hk, _, rfl⟩
          · exact hI.out B h5
          · exact (hI.lt k (getElem?_lt hk)).1) hb.size hI.base hb
        obtain ⟨ρ', t, hI', hrel⟩ := adopt_sound hI hb hres'
        exact ⟨c, _, _, ρ', rfl, t, hI', hrel, hK⟩
      · rw [if_neg hl] at hK
        obtain ⟨ρ', t, hI', hrel⟩ := adopt_sound l1 hb hres
        exact ⟨c, _, _, ρ', rfl, l2.trans t, hI', hrel, hK⟩
    · obtain ⟨hen, hc⟩ := h
      exact ⟨f, fi, cp, rfl, hen, hc Out ρ w _ hI b1 b2⟩
  | _ => rcases h with h | h <;> exact h.elim

theorem adoptL_ro : ∀ {vs : List V}, roL vs = true → ∀ H, adoptL vs H = (vs, H)
  | [], _, _ => rfl
  | v :: vs, h, H => by
    simp only [roL,Bool.and_eq_true] at h
    have h1 : adopt1 v H = (v, H) := by
      cases v <;> first | rfl | (simp [V.ro] at h)
    simp only [adoptL,h1,adoptL_ro h.2]

theorem adopt_ro {r : V} (h : r.ro = true) (H : Heap) : adopt r H = (r, H) := by
  cases r with
  | tup vs => simp only [adopt,adoptL_ro (by simpa [V.ro] using h)]
  | osl => simp [V.ro] at h
  | _ => rfl

theorem callC_callD {fv : V} {as : List V} {K : V → Heap → Prop} (h : callC P fv as H K) : callD P fv as H K := by
  unfold callC at h
  unfold callD
  split at h
  · rename_i f first cap
    obtain ⟨r, h1, h2, h3, h4⟩ := h
    refine ⟨0, r, h1, h3, ?_⟩
    have : (if r.loose = true then H else (lend 0 H (first ++ as ++ cap)).1) = H := by
      split <;> rfl
    rw [this, adopt_ro h2]
    exact h4
  · exact h.elim

theorem run_call {c : Call} {fo : Operand} {f : FuncId} {fi cp : Array Value} (ho : o.op = .call c) (hc : c.callee = .value fo) (hf : a.eval fo = .func (.func f) fi cp) (hen : Enters P f) :
    (execOp a.eval o).run P w = .ok (.enter f (fi ++ c.args.map a.eval ++ cp)) w := by
  obtain ⟨fn, h1, h2, h3⟩ := hen
  have h2' : fn.body.isNone = false := by cases hb : fn.body <;> simp_all
  have h3' : (fn.name == "runtime.NumGoroutine") = false := by simpa using h3
  simp only [execOp,ho,resolve,hc,hf,Deferred.ofValue,Sem.run_bind,Sem.run_pure,Result.andThen_ok,invoke,callFunc,program,Sem.run,h1,h2',h3']
  rfl

theorem run_round {c : Call} {fo : Operand} {l : Nat} {f : FuncId} {tmps : Array Value} {A B : Code} (ho : o.op = .call c) (hc : c.callee = .value fo) (hf : a.eval fo = .func (.yield l) #[] #[])
    (hy : (Instr.yield l (c.args.map a.eval)).run P w = .ok (.round l f tmps A B) w) : (execOp a.eval o).run P w = .ok (.round l f tmps A B) w := by
  simp only [execOp,ho,resolve,hc,hf,Deferred.ofValue,Sem.run_bind,Sem.run_pure,Result.andThen_ok,invoke]
  simpa using hy

theorem semAt_eq {ro : Option Nat} {η : Operand → Value} (h : ∀ c, o.op ≠ .defer c) : o.semAt ro η = execOp η o := by
  unfold Oper.semAt
  split
  · rename_i c hc; exact absurd hc (h c)
  · rfl

theorem ERel.put {d : Nat} {v : V} {c : Value} (hE : ERel Out ρ H w e a) (hv : Rel ρ H (BadIn Out ρ H) w v c) (hd : d < a.tmps.size) : ERel Out ρ H w (e.set d v) (a.put (some d) c) := by
  intro t
  simp only [Env.set,Act.put]
  by_cases h : t = d
  · subst h
    simp [Array.getD, hd, hv]
  · rw [if_neg h]
    have := hE t
    have hg : (a.tmps.setIfInBounds d c).getD t undef = a.tmps.getD t undef := by
      simp only [Array.getD,Array.size_setIfInBounds]
      split
      · exact Array.getElem_setIfInBounds_ne (by assumption) (Ne.symm h)
      · rfl
    rw [hg]; exact this

theorem ERel.putO {d : Option Nat} {v : V} {c : Value} {N : Nat} (hE : ERel Out ρ H w e a) (hv : Rel ρ H (BadIn Out ρ H) w v c) (hN : a.tmps.size = N) (hd : ∀ k, d = some k → k < N) :
    ERel Out ρ H w (e.put d v) (a.put d c) := by
  cases d with
  | none => exact hE
  | some k => exact hE.put hv (by rw [hN]; exact hd k rfl)

theorem put_size (d : Option Nat) (c : Value) : (a.put d c).tmps.size = a.tmps.size := by
  cases d <;> simp [Act.put]
theorem put_defers (d : Option Nat) (c : Value) : (a.put d c).defers = a.defers := by
  cases d <;> simp [Act.put]

/-- A list of operations, stripped. -/
inductive Strips (P : Program) (N : Nat) (ops : Array Oper) : List Nat → List Op → Prop
  | nil : Strips P N ops [] []
  | cons {i : Nat} {l : List Nat} {o : Oper} {pure : Nat} {co : Op} {cl : List Op} : ops[i]? = some o → stripOp P N pure ops o = some co → Strips P N ops l cl → Strips P N ops (i :: l) (co :: cl)

theorem stripOp_inv {N : Nat} {pure : Nat} {ops : Array Oper} {co : Op} (h : stripOp P N pure ops o = some co) :
    stripOC P pure o.op = some co.o ∧ stripGuard ops o.guard = some co.guard ∧ o.dst = co.dst ∧ ∀ k, co.dst = some k → k < N := by
  simp only [stripOp,Option.bind_eq_bind,Option.bind_eq_some_iff] at h
  obtain ⟨c, hc, g, hg, h⟩ := h
  split at h
  · rename_i d hd
    split at h
    · rename_i hlt
      cases h
      exact ⟨hc, hg, hd, fun k hk => by cases hk; exact hlt⟩
    · cases h
  · rename_i hd
    cases h
    exact ⟨hc, hg, hd, fun k hk => by cases hk⟩

theorem stripC_inv {op : Go.Op} {f : X} {as : List X} (h : stripC P op = some (f, as)) : ∃ c fo, op = .call c ∧ c.callee = .value fo ∧ stripX P fo = some f ∧ c.args.toList.mapM (stripX P) = some as := by
  unfold stripC at h
  split at h
  · rename_i c
    split at h
    · rename_i fo hfo
      simp only [Option.bind_eq_bind,Option.bind_eq_some_iff,Option.pure_def,Option.some.injEq,Prod.mk.injEq] at h
      obtain ⟨cf, h1, cas, h2, rfl, rfl⟩ := h
      exact ⟨c, fo, rfl, hfo, h1, h2⟩
    · cases h
  · cases h

theorem stripO_noDefer {op : Go.Op} {co : O} (h : stripO P op = some co) : ∀ c, op ≠ .defer c := by
  rintro c rfl
  simp [stripO] at h

/-- The temporaries, as many as they are, and what is deferred. -/
structure AInv (N : Nat) (D : List Deferred) (a : Act) : Prop where
  size : a.tmps.size = N
  defers : a.defers = D

/-- A postcondition of the machine's out of one of ours. -/
def Lift (P : Program) (Out : Nat → Prop) (N : Nat) (D : List Deferred) (ρ₀ : Nat → Nat) (H₀ : Heap) (w₀ : World) (K : Cont) : Exit → Act → World → Prop := fun x a w =>
  ∃ cx e H ρ, x = Ex.to cx ∧ K cx e H ∧ HInv P Out ρ H w ∧ ERel Out ρ H w e a ∧ AInv N D a ∧ Tr ρ₀ H₀ w₀ ρ H w

theorem wanted_eq {ops : Array Oper} {co : Op} {b : Bool} (hg : stripGuard ops o.guard = some co.guard) (hE : ERel Out ρ H w e a) (h : wantedV e co.guard = some b) :
    Region.wanted o (yielded ops a.tmps) = b := by
  unfold Region.wanted
  cases hgo : o.guard with
  | none =>
    rw [hgo] at hg
    simp only [stripGuard,Option.some.injEq] at hg
    rw [← hg] at h
    simp only [wantedV,Option.some.injEq] at h
    exact h
  | some p =>
    obtain ⟨j, want⟩ := p
    rw [hgo] at hg
    simp only [stripGuard,Option.bind_eq_bind,Option.bind_eq_some_iff,Option.pure_def,Option.some.injEq] at hg
    obtain ⟨oj, hoj, d, hd, hg⟩ := hg
    rw [← hg] at h
    simp only [wantedV,wantB] at h
    split at h
    · rename_i b' hb
      have hr := hE d
      rw [hb] at hr
      have hr := hr.bool_inv
      have hsome : a.tmps[d]? = some (.bool b') := by
        simp only [Array.getD] at hr
        split at hr
        · rename_i hlt
          rw [Array.getElem?_eq_getElem hlt]
          exact congrArg some hr
        · cases hr
      simp only [Option.some.injEq] at h
      simp only [yielded,hoj,Option.bind_some,hd,hsome]
      rw [← h]
      cases b' <;> cases want <;> rfl
    · rename_i vs hb
      have hr := hE d
      rw [hb] at hr
      obtain ⟨arr, hr⟩ : ∃ arr, a.tmps.getD d undef = .tuple arr := by
        generalize a.tmps.getD d undef = c at hr
        cases hr with
        | tup _ arr _ _ => exact ⟨_, rfl⟩
      simp only [Option.some.injEq] at h
      subst h
      simp only [yielded,hoj,Option.bind_some,hd]
      cases hg : a.tmps[d]? with
      | none => rfl
      | some c =>
        simp only [Array.getD_eq_getD_getElem?,hg,Option.getD_some] at hr
        subst hr
        rfl
    · cases h

theorem runOps_sound {F : Fence} {n N : Nat} {D : List Deferred} {lim : Option Nat} {ops : Array Oper} {ρ₀ : Nat → Nat} {H₀ : Heap} {w₀ : World} {K : Cont} (hF : Wide P F) :
    ∀ {l : List Nat} {cl : List Op}, Strips P N ops l cl → ∀ {e : Env} {H : Heap} {ρ : Nat → Nat} {a : Act} {w : World}, runOps P lim cl e H (K .normal) → HInv P Out ρ H w → ERel Out ρ H w e a → AInv N D a → Tr ρ₀ H₀ w₀ ρ H w →
      wpOpsIn F n P ops (Lift P Out N D ρ₀ H₀ w₀ K) l a w
  | _, _, .nil, e, H, ρ, a, w, hr, hI, hE, hA, ht => ⟨.normal, e, H, ρ, rfl, hr, hI, hE, hA, ht⟩
  | _, _, .cons (i := i) (l := l) (o := o) (pure := pure) (co := co) (cl := cl) hi hs hrest, e, H, ρ, a, w, hr, hI, hE, hA, ht => by
    obtain ⟨hoc, hg, hdst, hlt⟩ := stripOp_inv hs
    have habout : ∀ f, o.about P w a.eval = some f → F.fn f := fun f _ => hF.fn f
    simp only [wpOpsIn,hi]
    simp only [runOps] at hr
    cases hw : wantedV e co.guard with
    | none => rw [hw] at hr; exact hr.elim
    | some b =>
      rw [hw] at hr
      rw [wanted_eq hg hE hw]
      cases b with
      | false =>
        simp only at hr
        simp only [Bool.false_eq_true,if_false]
        refine ⟨habout, ?_⟩
        rw [hdst]
        exact runOps_sound hF hrest hr hI (hE.putO (.tup [] #[] rfl (fun i hi => absurd hi (Nat.not_lt_zero _))) hA.size hlt) ⟨by rw [put_size]; exact hA.size, by rw [put_defers]; exact hA.defers⟩ ht
      | true =>
        simp only at hr
        simp only [if_true]
        refine ⟨habout, ?_⟩
        have hcall : ∀ {f : X} {as : List X}, stripC P o.op = some (f, as) → callP P (f.ev e) (as.map (·.ev e)) H (fun r H' => runOps P lim cl (e.put co.dst r) H' (K .normal)) →
            o.uponIn F n P a (wpOpsIn F n P ops (Lift P Out N D ρ₀ H₀ w₀ K) l) (Lift P Out N D ρ₀ H₀ w₀ K) ((o.semAt F.round a.eval).run P w) := by
          intro f as hc hcp
          obtain ⟨c, fo, hop, hcal, hf, has⟩ := stripC_inv hc
          obtain ⟨m1, m2⟩ := mapM_stripX hI has hE
          have hargs : (c.args.toList.map a.eval).toArray = c.args.map a.eval := by apply Array.ext'; simp
          rcases callP_calls (ca := (c.args.toList.map a.eval).toArray) hI hcp (stripX_rel hI hE hf) (by simpa using m1) m2 with ⟨g, fi, cp, hfv, hen, hcalls⟩ | ⟨lp, g, tmps, A, B, hfv, hy, hround⟩
          · rw [semAt_eq (by rw [hop]; intro c h; cases h), run_call hop hcal hfv hen, ← hargs]
            simp only [Oper.uponIn]
            refine ⟨fun h => (by rw [hF.depth] at h; cases h), hF.calls (hcalls.mono ?_)⟩
            rintro e' w' ⟨c', r, H', ρ', rfl, t', hI', hrel, hK⟩
            simp only
            rw [hdst]
            exact runOps_sound hF hrest hK hI' ((hE.step t').putO hrel hA.size hlt) ⟨by rw [put_size]; exact hA.size, by rw [put_defers]; exact hA.defers⟩ (ht.trans t')
          · rw [hargs] at hy
            rw [semAt_eq (by rw [hop]; intro c h; cases h), run_round hop hcal hfv hy]
            simp only [Oper.uponIn]
            refine ⟨fun h => (by rw [hF.depth] at h; cases h), (hround F _ hF).mono ?_⟩
            rintro e' w' ⟨c', r, H', ρ', rfl, t', hI', hrel, hK⟩
            simp only
            rw [hdst]
            exact runOps_sound hF hrest hK hI' ((hE.step t').putO hrel hA.size hlt) ⟨by rw [put_size]; exact hA.size, by rw [put_defers]; exact hA.defers⟩ (ht.trans t')
        simp only [stripOC] at hoc
        cases hc : stripC P o.op with
        | some p =>
          rw [hc] at hoc
          simp only [Option.some.injEq] at hoc
          rw [← hoc] at hr
          cases pure with
          | zero => exact hcall hc hr
          | succ k => cases k with
            | zero => exact hcall hc (.inl hr)
            | succ k => exact hcall hc (.inl (callC_callD hr))
        | none =>
          rw [hc] at hoc
          simp only [Option.some.injEq] at hoc
          rw [← hoc] at hr
          simp only at hr
          cases ho' : stripO P o.op with
          | none => rw [ho'] at hr; exact hr.elim
          | some o' =>
          rw [ho'] at hr
          simp only [Option.getD_some] at hr
          rw [semAt_eq (stripO_noDefer ho')]
          cases hst : stepO (lim.getD H.length) o' e H with
          | none => rw [hst] at hr; exact hr.elim
          | some p =>
            obtain ⟨v, H'⟩ := p
            rw [hst] at hr
            simp only at hr
            obtain ⟨ρ', w', t', hI', hres⟩ := stepO_sound ho' hst hI hE
            rcases hres with ⟨c, hrun, hrel⟩ | ⟨hrun, rfl⟩
            · rw [hrun]
              simp only [Oper.uponIn]
              rw [hdst]
              exact runOps_sound hF hrest hr hI' ((hE.step t').putO hrel hA.size hlt) ⟨by rw [put_size]; exact hA.size, by rw [put_defers]; exact hA.defers⟩ (ht.trans t')
            · rw [hrun]
              simp only [Oper.uponIn]
              rw [hdst]
              exact runOps_sound hF hrest hr hI' ((hE.step t').putO (.und _) hA.size hlt) ⟨by rw [put_size]; exact hA.size, by rw [put_defers]; exact hA.defers⟩ (ht.trans t')

end
end Fe
