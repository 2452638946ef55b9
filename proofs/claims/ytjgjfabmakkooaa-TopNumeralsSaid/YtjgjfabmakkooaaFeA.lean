/-
  Values, the stripped code and its steps: an evaluator over the model, its operations sound one by one. No condition.
-/
import Derived.CallsIn
import Derived.Below
import Derived.WalkKit
import GoSem.PinnedTables
set_option linter.unusedSimpArgs false
set_option linter.unusedVariables false
namespace Fe
open Go Go.RowKit

/-- Values, told without a machine's addresses. -/
inductive V where
  | bool (b : Bool)
  | int (k : IntKind) (n : Int)
  | str (s : List UInt8)
  | nilp
  | cell (k g off : Nat)
  | rptr (cs : List V) (off : Nat)
  | sl (ex : Bool) (cs : List V) (n : Nat)
  | osl (esz : Nat) (cs : List V) (n : Nat)
  | view (k g off n : Nat)
  | fn (f : FuncId) (first cap : List V)
  | nilf
  | agg (cs : List V)
  | tup (vs : List V)
  | und
  | anyb
  | yld (k : Nat)
  | mp (k : Nat)
  | mnil
  deriving Inhabited

inductive HObj where
  | cells (g esz : Nat) (own : Bool) (cs : List V)
  | iter (s : List UInt8) (pos : Nat)
  | loop (S : Nat → List Nat → Code → Code → Prop) (ps : List Nat) (e : Nat → V) (st : LoopState) (pend : Option Code)
  | map (es : List (V × V))
  deriving Inhabited

def HObj.gen : HObj → Nat
  | .cells g _ _ _ => g
  | _ => 0
def HObj.esz : HObj → Nat
  | .cells _ e _ _ => e
  | _ => 0
def HObj.wr : HObj → Bool
  | .cells _ _ o _ => o
  | _ => true

abbrev Heap := List HObj
abbrev Env := Nat → V
def Env.set (e : Env) (d : Nat) (v : V) : Env := fun i => if i = d then v else e i

def genOf (H : Heap) (k : Nat) : Nat := ((H[k]?).map HObj.gen).getD 0
def eszOf (H : Heap) (k : Nat) : Nat := ((H[k]?).map HObj.esz).getD 0
def Mut (ρ : Nat → Nat) (H : Heap) (B : Nat) : Prop := ∃ k o, H[k]? = some o ∧ o.wr = true ∧ ρ k = B
def BadIn (Out : Nat → Prop) (ρ : Nat → Nat) (H : Heap) (B : Nat) : Prop := Out B ∨ Mut ρ H B

inductive Rel (ρ : Nat → Nat) (H : Heap) (Bad : Nat → Prop) (w : World) : V → Value → Prop
  | bool (b : Bool) : Rel ρ H Bad w (.bool b) (.bool b)
  | int (k : IntKind) (n : Int) : Rel ρ H Bad w (.int k n) (.int k n)
  | str (s : ByteArray) : Rel ρ H Bad w (.str s.data.toList) (.string s)
  | nilp : Rel ρ H Bad w .nilp (.pointer none)
  | cell (k g off B : Nat) : k < H.length → g ≤ genOf H k → (genOf H k = g → B = ρ k) → Rel ρ H Bad w (.cell k g off) (.pointer (some ⟨B, off, none⟩))
  | rptr (cs : List V) (off B o : Nat) (f : Nat → Value) : (∀ i, i < cs.length → w.cell? ⟨B, o + i, none⟩ = some (f i)) →
      (∀ i (h : i < cs.length), Rel ρ H Bad w cs[i] (f i)) → (cs ≠ [] → ¬ Bad B) → Rel ρ H Bad w (.rptr cs off) (.pointer (some ⟨B, o + off, none⟩))
  | sl (ex : Bool) (cs : List V) (n B o cap : Nat) (f : Nat → Value) : (∀ i, i < cs.length → w.cell? ⟨B, o + i, none⟩ = some (f i)) →
      (∀ i (h : i < cs.length), Rel ρ H Bad w cs[i] (f i)) → (cs ≠ [] → ¬ Bad B) → n ≤ cap → (ex = true → cap = n) →
      Rel ρ H Bad w (.sl ex cs n) (.slice (some ⟨B, o, none⟩) n cap)
  | slnil (ex : Bool) : Rel ρ H Bad w (.sl ex [] 0) (.slice none 0 0)
  | view (k g off n B cap : Nat) : k < H.length → g ≤ genOf H k →
      (genOf H k = g → B = ρ k ∧ ∀ arr T fz, w.heap[ρ k]? = some (.cells arr T fz) → off + cap * eszOf H k ≤ arr.size) → n ≤ cap →
      Rel ρ H Bad w (.view k g off n) (.slice (some ⟨B, off, none⟩) n cap)
  | fn (f : FuncId) (fs cs : List V) (fa ca : Array Value) : fa.size = fs.length → ca.size = cs.length →
      (∀ i (h : i < fs.length), Rel ρ H Bad w fs[i] (fa.getD i undef)) → (∀ i (h : i < cs.length), Rel ρ H Bad w cs[i] (ca.getD i undef)) →
      Rel ρ H Bad w (.fn f fs cs) (.func (.func f) fa ca)
  | nilf : Rel ρ H Bad w .nilf .nilFunc
  | agg (cs : List V) (arr : Array Value) : arr.size = cs.length → (∀ i (h : i < cs.length), Rel ρ H Bad w cs[i] (arr.getD i undef)) →
      Rel ρ H Bad w (.agg cs) (.agg arr)
  | tup (cs : List V) (arr : Array Value) : arr.size = cs.length → (∀ i (h : i < cs.length), Rel ρ H Bad w cs[i] (arr.getD i undef)) →
      Rel ρ H Bad w (.tup cs) (.tuple arr)
  | und (c : Value) : Rel ρ H Bad w .und c
  | anyb (b : Bool) : Rel ρ H Bad w .anyb (.bool b)
  | yld (k B : Nat) : k < H.length → (genOf H k = 0 → B = ρ k) → Rel ρ H Bad w (.yld k) (.func (.yield B) #[] #[])
  | mp (k B : Nat) : k < H.length → (genOf H k = 0 → B = ρ k) → Rel ρ H Bad w (.mp k) (.map (some B))
  | mnil : Rel ρ H Bad w .mnil (.map none)

/-- How one state of memory comes out of another. -/
structure Tr (ρ : Nat → Nat) (H : Heap) (w : World) (ρ' : Nat → Nat) (H' : Heap) (w' : World) : Prop where
  os : w'.os = w.os
  tape : w'.tape = w.tape
  output : w'.output = w.output
  size : w.heap.size ≤ w'.heap.size
  keep : ∀ B, B < w.heap.size → ¬ Mut ρ H B → w'.heap[B]? = w.heap[B]?
  len : H.length ≤ H'.length
  gen : ∀ k, k < H.length → genOf H k ≤ genOf H' k
  same : ∀ k, k < H.length → genOf H' k = genOf H k → ρ' k = ρ k ∧ eszOf H' k = eszOf H k ∧
    ∀ arr T fz, w'.heap[ρ k]? = some (.cells arr T fz) → ∃ arr' T' fz', w.heap[ρ k]? = some (.cells arr' T' fz') ∧ arr'.size = arr.size
  wrt : ∀ B, B < w.heap.size → Mut ρ' H' B → Mut ρ H B

theorem Tr.refl (ρ : Nat → Nat) (H : Heap) (w : World) : Tr ρ H w ρ H w :=
  ⟨rfl, rfl, rfl, Nat.le_refl _, fun _ _ _ => rfl, Nat.le_refl _, fun _ _ => Nat.le_refl _, fun _ _ _ => ⟨rfl, rfl, fun arr T fz h => ⟨arr, T, fz, h, rfl⟩⟩, fun _ _ h => h⟩

theorem Tr.trans {ρ ρ' ρ'' : Nat → Nat} {H H' H'' : Heap} {w w' w'' : World} (h : Tr ρ H w ρ' H' w') (k : Tr ρ' H' w' ρ'' H'' w'') : Tr ρ H w ρ'' H'' w'' where
  os := k.os.trans h.os
  tape := k.tape.trans h.tape
  output := k.output.trans h.output
  size := Nat.le_trans h.size k.size
  keep := fun B hB hm => by
    rw [k.keep B (Nat.lt_of_lt_of_le hB h.size) (fun hm' => hm (h.wrt B hB hm')), h.keep B hB hm]
  len := Nat.le_trans h.len k.len
  gen := fun i hi => Nat.le_trans (h.gen i hi) (k.gen i (Nat.lt_of_lt_of_le hi h.len))
  same := fun i hi hg => by
    have h1 := h.gen i hi
    have h2 := k.gen i (Nat.lt_of_lt_of_le hi h.len)
    have e1 : genOf H' i = genOf H i := by omega
    have e2 : genOf H'' i = genOf H' i := by omega
    obtain ⟨a1, a2, a3⟩ := h.same i hi e1
    obtain ⟨b1, b2, b3⟩ := k.same i (Nat.lt_of_lt_of_le hi h.len) e2
    refine ⟨b1.trans a1, b2.trans a2, fun arr T fz hc => ?_⟩
    rw [← a1] at hc
    obtain ⟨arr', T', fz', hc', hs⟩ := b3 arr T fz hc
    rw [a1] at hc'
    obtain ⟨arr'', T'', fz'', hc'', hs'⟩ := a3 arr' T' fz' hc'
    exact ⟨arr'', T'', fz'', hc'', hs'.trans hs⟩
  wrt := fun B hB hm => h.wrt B hB (k.wrt B (Nat.lt_of_lt_of_le hB h.size) hm)

theorem cell_lt {w : World} {a : Addr} {v : Value} (h : w.cell? a = some v) : a.block < w.heap.size := by
  unfold World.cell? at h
  rcases Nat.lt_or_ge a.block w.heap.size with h1 | h1
  · exact h1
  · simp [Array.getElem?_eq_none h1] at h

theorem cell_of_block {w w' : World} {a : Addr} (h : w'.heap[a.block]? = w.heap[a.block]?) : w'.cell? a = w.cell? a := by
  unfold World.cell?; rw [h]

/-- What a value reads as is kept by a step that leaves alone what it reads. -/
theorem Rel.mono {ρ ρ' : Nat → Nat} {H H' : Heap} {Bad Bad' : Nat → Prop} {w w' : World} (t : Tr ρ H w ρ' H' w')
    (hb : ∀ B, Mut ρ H B → Bad B) (hb' : ∀ B, B < w.heap.size → Bad' B → Bad B) {v : V} {c : Value} (h : Rel ρ H Bad w v c) : Rel ρ' H' Bad' w' v c := by
  induction h with
  | bool b => exact .bool b
  | int k n => exact .int k n
  | str s => exact .str s
  | nilp => exact .nilp
  | cell k g off B hk hg hB =>
    refine .cell k g off B (Nat.lt_of_lt_of_le hk t.len) (Nat.le_trans hg (t.gen k hk)) (fun e => ?_)
    have := t.gen k hk
    rw [hB (by omega), (t.same k hk (by omega)).1]
  | rptr cs off B o f hc hr hn ih =>
    refine .rptr cs off B o f (fun i hi => ?_) ih (fun hne hbad => ?_)
    · have := cell_lt (hc i hi)
      rw [cell_of_block (t.keep B this (fun hm => hn (by rintro rfl; simp at hi) (hb B hm)))]
      exact hc i hi
    · have : 0 < cs.length := List.length_pos_iff.2 hne
      exact hn hne (hb' B (by have := cell_lt (hc 0 this); exact this) hbad)
  | sl ex cs n B o cap f hc hr hn hle hex ih =>
    refine .sl ex cs n B o cap f (fun i hi => ?_) ih (fun hne hbad => ?_) hle hex
    · have := cell_lt (hc i hi)
      rw [cell_of_block (t.keep B this (fun hm => hn (by rintro rfl; simp at hi) (hb B hm)))]
      exact hc i hi
    · have : 0 < cs.length := List.length_pos_iff.2 hne
      exact hn hne (hb' B (by have := cell_lt (hc 0 this); exact this) hbad)
  | slnil ex => exact .slnil ex
  | view k g off n B cap hk hg hB hle =>
    refine .view k g off n B cap (Nat.lt_of_lt_of_le hk t.len) (Nat.le_trans hg (t.gen k hk)) (fun e => ?_) hle
    have := t.gen k hk
    obtain ⟨s1, s2, s3⟩ := t.same k hk (by omega)
    obtain ⟨b1, b2⟩ := hB (by omega)
    refine ⟨by rw [b1, s1], fun arr T fz hc => ?_⟩
    rw [s1] at hc
    obtain ⟨arr', T', fz', hc', hs⟩ := s3 arr T fz hc
    rw [s2, ← hs]
    exact b2 arr' T' fz' hc'
  | fn f fs cs fa ca h1 h2 _ _ ih1 ih2 => exact .fn f fs cs fa ca h1 h2 ih1 ih2
  | nilf => exact .nilf
  | agg cs arr h1 _ ih => exact .agg cs arr h1 ih
  | tup cs arr h1 _ ih => exact .tup cs arr h1 ih
  | und c => exact .und c
  | anyb b => exact .anyb b
  | yld k B hk hB =>
    refine .yld k B (Nat.lt_of_lt_of_le hk t.len) (fun e => ?_)
    have := t.gen k hk
    rw [hB (by omega), (t.same k hk (by omega)).1]
  | mp k B hk hB =>
    refine .mp k B (Nat.lt_of_lt_of_le hk t.len) (fun e => ?_)
    have := t.gen k hk
    rw [hB (by omega), (t.same k hk (by omega)).1]
  | mnil => exact .mnil

/-- A loop's record lies there. -/
def LoopAt (Bad : Nat → Prop) (ρ : Nat → Nat) (H : Heap) (w : World) (B : Nat) (S : Nat → List Nat → Code → Code → Prop) (ps : List Nat) (e : Nat → V) (st : LoopState) (pend : Option Code) : Prop :=
  ∃ (fn : FuncId) (tmps : Array Value) (a b : Code) (ds : Nat), S tmps.size ps a b ∧ (∀ t, Rel ρ H Bad w (e t) (tmps.getD t undef)) ∧
    w.heap[B]? = some (.loop { state := st, pending := pend, fn := fn, tmps := tmps, params := ps.toArray, assign := a, body := b, defers := ds })

theorem LoopAt.mono {ρ ρ' : Nat → Nat} {H H' : Heap} {Bad Bad' : Nat → Prop} {w w' : World} {B B' : Nat} {S : Nat → List Nat → Code → Code → Prop} {ps : List Nat} {e : Nat → V} {st : LoopState} {pend : Option Code}
    (h : LoopAt Bad ρ H w B S ps e st pend) (hr : ∀ {v : V} {c : Value}, Rel ρ H Bad w v c → Rel ρ' H' Bad' w' v c) (hB : w'.heap[B']? = w.heap[B]?) : LoopAt Bad' ρ' H' w' B' S ps e st pend := by
  obtain ⟨fn, tmps, a, b, ds, h1, h2, h3⟩ := h
  exact ⟨fn, tmps, a, b, ds, h1, fun t => hr (h2 t), hB.trans h3⟩

/-- A map lies there. -/
def MapAt (Bad : Nat → Prop) (ρ : Nat → Nat) (H : Heap) (w : World) (B : Nat) (es : List (V × V)) : Prop :=
  ∃ (arr : Array MapEntry) (clock : Nat), w.heap[B]? = some (.map arr clock) ∧ arr.toList.length = es.length ∧
    ∀ i (h : i < es.length) (h' : i < arr.toList.length), Rel ρ H Bad w es[i].1 arr.toList[i].key ∧ Rel ρ H Bad w es[i].2 arr.toList[i].val

theorem MapAt.mono {ρ ρ' : Nat → Nat} {H H' : Heap} {Bad Bad' : Nat → Prop} {w w' : World} {B B' : Nat} {es : List (V × V)}
    (h : MapAt Bad ρ H w B es) (hr : ∀ {v : V} {c : Value}, Rel ρ H Bad w v c → Rel ρ' H' Bad' w' v c) (hB : w'.heap[B']? = w.heap[B]?) : MapAt Bad' ρ' H' w' B' es := by
  obtain ⟨arr, clock, h1, h2, h3⟩ := h
  exact ⟨arr, clock, hB.trans h1, h2, fun i h h' => ⟨hr (h3 i h h').1, hr (h3 i h h').2⟩⟩

/-- The bytes of the table that tells of a character's first byte; of the ranges that its second one may have. -/
def utf8F : List Nat := Go.Pinned.utf8FirstZ
def acceptL : List Nat := [128, 191, 160, 191, 128, 159, 144, 191, 128, 143, 0, 0, 0, 0, 0, 0, 0, 0, 0, 0, 0, 0, 0, 0, 0, 0, 0, 0, 0, 0, 0, 0]
/-- The tables of bytes that a program's text lays. -/
def tabOf (P : Program) (g : Nat) : Option (List Nat) :=
  if P.globalNamed "unicode/utf8.first" = some g then some utf8F
  else if P.globalNamed "unicode/utf8.acceptRanges" = some g then some acceptL else none
def tabV (ns : List Nat) : List V := ns.map fun (n : Nat) => .int .u8 (n : Int)

/-- The tables lie there, and nobody may write them. -/
def Tabs (P : Program) (Bad : Nat → Prop) (w : World) : Prop :=
  ∀ g ns, tabOf P g = some ns → ¬ Bad g ∧ g < w.heap.size ∧ ∀ i (h : i < ns.length), w.cell? ⟨g, i, none⟩ = some (.int .u8 (ns[i] : Nat))
/-- A variable of the library's that is a number lies there. -/
def MaxL (P : Program) (Bad : Nat → Prop) (w : World) : Prop :=
  ∀ g, P.globalNamed "internal/bytealg.MaxLen" = some g → ¬ Bad g ∧ g < w.heap.size ∧ ∃ m : Int, w.cell? ⟨g, 0, none⟩ = some (.int .i64 m)
/-- What a program has at its heap's foot. -/
def Base (P : Program) (Bad : Nat → Prop) (w : World) : Prop := Tabs P Bad w ∧ MaxL P Bad w

theorem Base.mono {P : Program} {ρ ρ' : Nat → Nat} {H H' : Heap} {Bad Bad' : Nat → Prop} {w w' : World} (h : Base P Bad w) (t : Tr ρ H w ρ' H' w')
    (hb : ∀ B, Mut ρ H B → Bad B) (hb' : ∀ B, B < w.heap.size → Bad' B → Bad B) : Base P Bad' w' := by
  refine ⟨fun g ns hg => ?_, fun g hg => ?_⟩
  · obtain ⟨h1, h2, h3⟩ := h.1 g ns hg
    refine ⟨fun hh => h1 (hb' g h2 hh), Nat.lt_of_lt_of_le h2 t.size, fun i hi => ?_⟩
    rw [cell_of_block (t.keep g h2 (fun hm => h1 (hb g hm)))]
    exact h3 i hi
  · obtain ⟨h1, h2, m, h3⟩ := h.2 g hg
    refine ⟨fun hh => h1 (hb' g h2 hh), Nat.lt_of_lt_of_le h2 t.size, m, ?_⟩
    rw [cell_of_block (t.keep g h2 (fun hm => h1 (hb g hm)))]
    exact h3

theorem Base.same {P : Program} {Bad Bad' : Nat → Prop} {w w' : World} (h : Base P Bad w) (hs : w.heap.size ≤ w'.heap.size) (hk : ∀ B, B < w.heap.size → ¬ Bad B → w'.heap[B]? = w.heap[B]?)
    (hb' : ∀ B, B < w.heap.size → Bad' B → Bad B) : Base P Bad' w' := by
  refine ⟨fun g ns hg => ?_, fun g hg => ?_⟩
  · obtain ⟨h1, h2, h3⟩ := h.1 g ns hg
    refine ⟨fun hh => h1 (hb' g h2 hh), Nat.lt_of_lt_of_le h2 hs, fun i hi => ?_⟩
    rw [cell_of_block (hk g h2 h1)]
    exact h3 i hi
  · obtain ⟨h1, h2, m, h3⟩ := h.2 g hg
    refine ⟨fun hh => h1 (hb' g h2 hh), Nat.lt_of_lt_of_le h2 hs, m, ?_⟩
    rw [cell_of_block (hk g h2 h1)]
    exact h3

theorem Base.rel {P : Program} {ρ : Nat → Nat} {H : Heap} {Bad : Nat → Prop} {w : World} (h : Base P Bad w) {g : Nat} {ns : List Nat} (hg : tabOf P g = some ns) :
    Rel ρ H Bad w (.rptr (tabV ns) 0) (.pointer (some ⟨g, 0, none⟩)) := by
  obtain ⟨h1, _, h3⟩ := h.1 g ns hg
  refine .rptr (tabV ns) 0 g 0 (fun i => .int .u8 (ns.getD i 0 : Nat)) (fun i hi => ?_) (fun i hi => ?_) (fun _ => h1)
  · have hi' : i < ns.length := by simpa [tabV] using hi
    rw [Nat.zero_add, h3 i hi']
    simp [List.getD, List.getElem?_eq_getElem hi']
  · have hi' : i < ns.length := by simpa [tabV] using hi
    have : (tabV ns)[i] = .int .u8 (ns[i] : Nat) := by simp [tabV]
    rw [this]
    simp only [List.getD,List.getElem?_eq_getElem hi',Option.getD_some]
    exact .int _ _

/-- Memory is as the heap tells. -/
structure HInv (P : Program) (Out : Nat → Prop) (ρ : Nat → Nat) (H : Heap) (w : World) : Prop where
  out : ∀ B, Out B → B < w.heap.size
  inj : ∀ i j, i < H.length → j < H.length → ρ i = ρ j → i = j
  lt : ∀ k, k < H.length → ρ k < w.heap.size ∧ ¬ Out (ρ k)
  cells : ∀ k g esz own cs, H[k]? = some (.cells g esz own cs) → ∃ arr T, w.heap[ρ k]? = some (.cells arr T (0, 0)) ∧ cs.length ≤ arr.size ∧
    ∀ i (h : i < cs.length), Rel ρ H (BadIn Out ρ H) w cs[i] (arr.getD i undef)
  iter : ∀ k s pos, H[k]? = some (.iter s pos) → ∃ ba : ByteArray, ba.data.toList = s ∧ w.heap[ρ k]? = some (.stringIter ba pos)
  loop : ∀ k S ps e st pend, H[k]? = some (.loop S ps e st pend) → LoopAt (BadIn Out ρ H) ρ H w (ρ k) S ps e st pend
  map : ∀ k es, H[k]? = some (.map es) → MapAt (BadIn Out ρ H) ρ H w (ρ k) es
  base : Base P (BadIn Out ρ H) w

end Fe
namespace Fe
open Go Go.RowKit

/-! ### The code, without types, places and strings -/
inductive X where
  | t (n : Nat)
  | c (v : V)
  deriving Inhabited
def X.ev (e : Env) : X → V
  | .t n => e n
  | .c v => v

inductive CK where
  | int (k : IntKind)
  | runeStr | bytesStr | runesStr | strBytes | strRunes
  deriving Inhabited

inductive O where
  | mov (x : X)
  | pick (c a b : X)
  | box (x : X)
  | build (zero : List V) (parts : List (Nat × Nat × X))
  | mksl (zero : List V) (len : Nat) (parts : List (Nat × Nat × X))
  | load (agg : Bool) (sz : Nat) (a : X)
  | store (sz : Nat) (a v : X)
  | nilck (x : X)
  | bin (cls : Nat) (op : BinOp) (x y : X)
  | un (op : UnOp) (x : X)
  | conv (k : CK) (x : X)
  | mkfn (f : FuncId) (first cap : List X)
  | mkslice (esz bytes : Nat) (zero : List V) (len cap : X)
  | slice (esz : Nat) (x : X) (lo hi mx : Option X)
  | slstr (x : X) (lo hi : Option X)
  | faddr (off : Nat) (x : X)
  | field (agg : Bool) (off sz : Nat) (x : X)
  | iaddr (esz : Nat) (x i : X)
  | index (x i : X)
  | extract (x : X) (i : Nat)
  | len (str : Bool) (x : X)
  | append (esz bytes : Nat) (x y : X)
  | mx (x y : X)
  | mn (x y : X)
  | range (x : X)
  | next (x : X)
  | isnil (neg : Bool) (x : X)
  | loadx (agg : Bool) (sz : Nat) (a : X) (av : List X)
  | mkslh (esz : Nat) (zero : List V) (len : Nat) (parts : List (Nat × Nat × X))
  | aaddr (esz n : Nat) (x i : X)
  | mkmap
  | lookup (key : Nat) (ok : Bool) (zero : V) (m k : X)
  | mapset (key : Nat) (m k v : X)
  | mapdel (key : Nat) (m k : X)
  | mlen (x : X)
  | clear (esz : Nat) (zero : List V) (x : X)
  deriving Inhabited
/-- What is not covered. -/
abbrev O.bad : O := .extract (.c .und) 0

inductive OC where
  | op (o : O)
  | call (pure : Bool) (f : X) (args : List X)
  | callc (f : X) (args : List X)
  deriving Inhabited

structure Op where
  dst : Option Nat
  o : OC
  guard : Option (Nat × Bool)
  deriving Inhabited

inductive C where
  | skip
  | region (draw : Bool) (ops : List Op)
  | seq (a b : C)
  | cond (x : X) (a b : C)
  | block (id : Nat) (c : C)
  | loop (c : C)
  | exit (id : Nat)
  | ret
  | rangef (g : X) (ps : List Nat) (a c : C)
  | bad
  deriving Inhabited

/-! ### Stripping -/
def V.cells : V → List V
  | .agg cs => cs
  | v => [v]
/-- May it lie in a cell? -/
def V.isCell : V → Bool
  | .agg _ | .tup _ | .und | .osl _ _ _ => false
  | _ => true

/-- May it be boxed? -/
def V.boxable : V → Bool
  | .agg _ => true
  | v => v.isCell

def constV : Nat → Value → Option V
  | 0, _ => none
  | n + 1, v => match v with
    | .bool b => some (.bool b)
    | .int k i => some (.int k i)
    | .string s => some (.str s.data.toList)
    | .pointer none => some .nilp
    | .slice none 0 0 => some (.sl true [] 0)
    | .nilFunc => some .nilf
    | .map none => some .mnil
    | .func (.func f) a b => if a.isEmpty && b.isEmpty then some (.fn f [] []) else none
    | .agg cs => (cs.toList.mapM (constV n)).map .agg
    | _ => none

def stripX (P : Program) : Operand → Option X
  | .tmp t => some (.t t)
  | .const v => (constV 4 v).map .c
  | .func f => some (.c (.fn f [] []))
  | .global g => (tabOf P g).map fun ns => .c (.rptr (tabV ns) 0)

def isAggD : TypeDesc → Bool
  | .struct _ | .array _ _ => true
  | _ => false

def zeroCellsOf (P : Program) (t : TypeId) : Option (List V) := do
  let i ← P.info? t
  let z ← i.zero
  let v ← constV 4 z
  return v.cells

def clsOf : TypeDesc → Nat
  | .bool => 1
  | .pointer _ => 2
  | .func _ _ _ => 4
  | .map _ _ => 5
  | _ => 0

def stripParts (P : Program) (place : Nat → Option (Nat × Nat)) (ps : List (Nat × Operand)) : Option (List (Nat × Nat × X)) :=
  ps.mapM fun (j, x) => do
    let (off, sz) ← place j
    return (off, sz, ← stripX P x)

def ckOf (P : Program) (src dst : TypeId) : Option CK := do
  match ← P.underlying src, ← P.underlying dst with
  | .int _, .int k => some (.int k)
  | .int _, .string => some .runeStr
  | .slice e, .string => match ← P.underlying e with
    | .int .u8 => some .bytesStr
    | .int .i32 => some .runesStr
    | _ => none
  | .string, .slice e => match ← P.underlying e with
    | .int .u8 => some .strBytes
    | .int .i32 => some .strRunes
    | _ => none
  | _, _ => none

def stripOX (P : Program) : Option Operand → Option (Option X)
  | none => some none
  | some x => (stripX P x).map some

def structPlaces (P : Program) (fs : Array Field) : Option (List (Nat × Nat)) :=
  fs.toList.mapM fun f => (P.info? f.type).map fun i => (f.offset, i.size)

/-- Is it a comparison with nil? -/
def nilTest : BinOp → Operand → Option Bool
  | .eql, .const (.slice none 0 0) => some false
  | .neq, .const (.slice none 0 0) => some true
  | _, _ => none

/-- Literals of numbers 'int' are taken for memory that may be written. -/
def hotEl (P : Program) (el : TypeId) : Bool :=
  match P.underlying el with
  | some (.int .i64) => true
  | _ => false

/-- Which keys a map has. -/
def keyCls : TypeDesc → Option Nat
  | .int _ => some 0
  | .string => some 1
  | .bool => some 2
  | _ => none
def keyOf (P : Program) (t : TypeId) : Option Nat := do
  let .map kt _ ← P.underlying t | none
  let d ← P.underlying kt
  keyCls d
def zeroOf (P : Program) (t : TypeId) : Option V := do
  let .map _ el ← P.underlying t | none
  let i ← P.info? el
  let z ← i.zero
  constV 4 z
def isMap (P : Program) (t : TypeId) : Option Unit := do
  let .map _ _ ← P.underlying t | none
  return ()
def clearOf (P : Program) (t : TypeId) : Option (Nat × List V) := do
  let .slice el ← P.underlying t | none
  let i ← P.info? el
  let z ← zeroCellsOf P el
  if z.length = i.size ∧ i.size ≠ 0 ∧ z.all V.isCell = true then return (i.size, z) else none

def stripO (P : Program) : Go.Op → Option O
  | .move x => (stripX P x).map .mov
  | .assign x => (stripX P x).map .mov
  | .pick c a b => do return .pick (← stripX P c) (← stripX P a) (← stripX P b)
  | .alloc t => do
    let i ← P.info? t
    let z ← i.zero
    let v ← constV 4 z
    return .box (.c v)
  | .box _ x => (stripX P x).map .box
  | .build t ps => do
    let z ← zeroCellsOf P t
    match ← P.underlying t with
    | .struct fs => do
      let pl ← structPlaces P fs
      return .build z (← stripParts P (pl[·]?) ps.toList)
    | .array _ el => do
      let i ← P.info? el
      return .build z (← stripParts P (fun k => some (k * i.size, i.size)) ps.toList)
    | _ => none
  | .buildSlice t len ps => do
    let .slice el ← P.underlying t | none
    let i ← P.info? el
    if len * i.size > 2 ^ 24 ∨ i.size = 0 then none else do
    let z ← zeroCellsOf P el
    if z.length = i.size then
      let cps ← stripParts P (fun k => some (k * i.size, i.size)) ps.toList
      return (if hotEl P el = true then .mkslh i.size ((List.replicate len z).flatten) len cps else .mksl ((List.replicate len z).flatten) len cps)
    else none
  | .load t a => do
    let d ← P.underlying t
    let i ← P.info? t
    return .load (isAggD d) i.size (← stripX P a)
  | .store t a v => do
    let i ← P.info? t
    return .store i.size (← stripX P a) (← stripX P v)
  | .nilCheck x => (stripX P x).map .nilck
  | .binOp op t x y _ => match nilTest op y with
    | some neg => do
      let .slice _ ← P.underlying t | none
      return .isnil neg (← stripX P x)
    | none => do
      let d ← P.underlying t
      return .bin (clsOf d) op (← stripX P x) (← stripX P y)
  | .unOp op _ x => (stripX P x).map (.un op)
  | .convert s d x => do return .conv (← ckOf P s d) (← stripX P x)
  | .makeFunc (.func f) fi ca => do return .mkfn f (← fi.toList.mapM (stripX P)) (← ca.toList.mapM (stripX P))
  | .makeSlice t l c => do
    let .slice el ← P.underlying t | none
    let i ← P.info? el
    let z ← zeroCellsOf P el
    if z.length = i.size ∧ i.size ≠ 0 then return .mkslice i.size i.bytes z (← stripX P l) (← stripX P c) else none
  | .slice t x lo hi mx => do
    match ← P.underlying t with
    | .slice el => do
      let i ← P.info? el
      return .slice i.size (← stripX P x) (← stripOX P lo) (← stripOX P hi) (← stripOX P mx)
    | .string => do
      if mx.isNone then return .slstr (← stripX P x) (← stripOX P lo) (← stripOX P hi) else none
    | _ => none
  | .fieldAddr s x j => do
    let .struct fs ← P.underlying s | none
    let f ← fs[j]?
    let i ← P.info? f.type
    if i.size = 0 then none else return .faddr f.offset (← stripX P x)
  | .field s x j => do
    let .struct fs ← P.underlying s | none
    let f ← fs[j]?
    let i ← P.info? f.type
    let d ← P.underlying f.type
    return .field (isAggD d) f.offset i.size (← stripX P x)
  | .indexAddr t x i => do
    match ← P.underlying t with
    | .slice el => do
      let inf ← P.info? el
      return .iaddr inf.size (← stripX P x) (← stripX P i)
    | .array n el => do
      let inf ← P.info? el
      return .aaddr inf.size n (← stripX P x) (← stripX P i)
    | _ => none
  | .index t x i => do
    let .string ← P.underlying t | none
    return .index (← stripX P x) (← stripX P i)
  | .extract x i => (stripX P x).map (.extract · i)
  | .range t x => do
    let .string ← P.underlying t | none
    return .range (← stripX P x)
  | .next x true => (stripX P x).map .next
  | .call c => match c.callee with
    | .builtin .len => do
      match c.argTypes.toList, c.args.toList with
      | [t], [x] => match ← P.underlying t with
        | .string => return .len true (← stripX P x)
        | .slice _ => return .len false (← stripX P x)
        | .map _ _ => return .mlen (← stripX P x)
        | _ => none
      | _, _ => none
    | .builtin .max => match c.args.toList with
      | [x, y] => do return .mx (← stripX P x) (← stripX P y)
      | _ => none
    | .builtin .min => match c.args.toList with
      | [x, y] => do return .mn (← stripX P x) (← stripX P y)
      | _ => none
    | .builtin .append => match c.argTypes.toList, c.args.toList with
      | [t, u], [x, y] => do
        let .slice el ← P.underlying t | none
        let i ← P.info? el
        let z ← i.zero
        match ← P.underlying u with
        | .int _ => none
        | _ => if i.size = 0 ∨ z.cells.size ≠ i.size then none else return .append i.size i.bytes (← stripX P x) (← stripX P y)
      | _, _ => none
    | .builtin .delete => match c.argTypes.toList, c.args.toList with
      | t :: _, [m, k] => do return .mapdel (← keyOf P t) (← stripX P m) (← stripX P k)
      | _, _ => none
    | .builtin .clear => match c.argTypes.toList, c.args.toList with
      | [t], [x] => do
        let p ← clearOf P t
        return .clear p.1 p.2 (← stripX P x)
      | _, _ => none
    | _ => none
  | .makeMap t none => do
    isMap P t
    return .mkmap
  | .lookup t x k ok => do return .lookup (← keyOf P t) ok (← zeroOf P t) (← stripX P x) (← stripX P k)
  | .mapUpdate t m k v => do return .mapset (← keyOf P t) (← stripX P m) (← stripX P k) (← stripX P v)
  | .insert t m k v => do return .mapset (← keyOf P t) (← stripX P m) (← stripX P k) (← stripX P v)
  | _ => none

def stripGuard (ops : Array Oper) : Option (Nat × Bool) → Option (Option (Nat × Bool))
  | none => some none
  | some (j, want) => do
    let o ← ops[j]?
    let d ← o.dst
    return some (d, want)

def stripC (P : Program) (op : Go.Op) : Option (X × List X) :=
  match op with
  | .call c => match c.callee with
    | .value f => do return (← stripX P f, ← c.args.toList.mapM (stripX P))
    | _ => none
  | _ => none

def callMode (mode : Nat) (f : X) (as : List X) : OC :=
  match mode with
  | 0 => .call false f as
  | 1 => .call true f as
  | _ => .callc f as

/-- Mode 0: a call at the heap · 1: one that reads · 2: one that sees no heap. -/
def stripOC (P : Program) (mode : Nat) (op : Go.Op) : Option OC :=
  match stripC P op with
  | some (f, as) => some (callMode mode f as)
  | none => some (.op ((stripO P op).getD .bad))

def stripOp (P : Program) (N : Nat) (mode : Nat) (ops : Array Oper) (o : Oper) : Option Op := do
  let c ← stripOC P mode o.op
  let g ← stripGuard ops o.guard
  match o.dst with
  | some d => if d < N then return ⟨some d, c, g⟩ else none
  | none => return ⟨none, c, g⟩

/-! ### Steps -/
def splice (cs : List V) (off : Nat) (new : List V) : List V := cs.take off ++ new ++ cs.drop (off + new.length)

def fillL : List V → List (Nat × Nat × V) → Option (List V)
  | cs, [] => some cs
  | cs, (off, size, v) :: rest =>
    if v.boxable = true ∧ v.cells.length = size ∧ off + size ≤ cs.length then fillL (splice cs off v.cells) rest else none

def binInt (op : BinOp) (k : IntKind) (a b : Int) : Option V :=
  match op with
  | .add => some (.int k (k.wrap (a + b)))
  | .sub => some (.int k (k.wrap (a - b)))
  | .mul => some (.int k (k.wrap (a * b)))
  | .quo => if b = 0 then none else some (.int k (k.wrap (a.tdiv b)))
  | .rem => if b = 0 then none else some (.int k (a.tmod b))
  | .and => some (.int k (k.wrap ((BitVec.ofInt k.bits a &&& BitVec.ofInt k.bits b).toNat : Int)))
  | .or => some (.int k (k.wrap ((BitVec.ofInt k.bits a ||| BitVec.ofInt k.bits b).toNat : Int)))
  | .xor => some (.int k (k.wrap ((BitVec.ofInt k.bits a ^^^ BitVec.ofInt k.bits b).toNat : Int)))
  | .andNot => some (.int k (k.wrap ((BitVec.ofInt k.bits a &&& ~~~(BitVec.ofInt k.bits b)).toNat : Int)))
  | .eql => some (.bool (a == b))
  | .neq => some (.bool (a != b))
  | .lss => some (.bool (decide (a < b)))
  | .leq => some (.bool (decide (a ≤ b)))
  | .gtr => some (.bool (decide (a > b)))
  | .geq => some (.bool (decide (a ≥ b)))
  | _ => none

def binStr (op : BinOp) (a b : List UInt8) : Option V :=
  match op with
  | .add => if a.length + b.length ≤ 9223372036854775807 then some (.str (a ++ b)) else none
  | .eql => some (.bool (a == b))
  | .neq => some (.bool (!(a == b)))
  | .lss => some (.bool (Op.bytesLess a b))
  | .geq => some (.bool (!Op.bytesLess a b))
  | .leq => some (.bool (Op.bytesLess a b || a == b))
  | .gtr => some (.bool (!(Op.bytesLess a b || a == b)))
  | _ => none

def binV (cls : Nat) (op : BinOp) : V → V → Option V
  | .int k a, .int k' b => match op with
    | .shl => if b < 0 then none else some (.int k (k.wrap (a * 2 ^ (min b.toNat k.bits))))
    | .shr => if b < 0 then none else some (.int k (a.fdiv (2 ^ (min b.toNat k.bits))))
    | op => if k = k' then binInt op k a b else none
  | .str a, .str b => binStr op a b
  | .bool a, .bool b => match cls, op with
    | 1, .eql => some (.bool (a == b))
    | 1, .neq => some (.bool (!(a == b)))
    | _, _ => none
  | .nilp, .nilp => match cls, op with
    | 2, .eql => some (.bool true)
    | 2, .neq => some (.bool false)
    | _, _ => none
  | .cell _ _ _, .nilp => match cls, op with
    | 2, .eql => some (.bool false)
    | 2, .neq => some (.bool true)
    | _, _ => none
  | .nilp, .cell _ _ _ => match cls, op with
    | 2, .eql => some (.bool false)
    | 2, .neq => some (.bool true)
    | _, _ => none
  | .rptr _ _, .nilp => match cls, op with
    | 2, .eql => some (.bool false)
    | 2, .neq => some (.bool true)
    | _, _ => none
  | .nilf, .nilf => match cls, op with
    | 4, .eql => some (.bool true)
    | 4, .neq => some (.bool false)
    | _, _ => none
  | .fn _ _ _, .nilf => match cls, op with
    | 4, .eql => some (.bool false)
    | 4, .neq => some (.bool true)
    | _, _ => none
  | _, _ => none

def unV : UnOp → V → Option V
  | .not, .bool b => some (.bool (!b))
  | .not, .anyb => some .anyb
  | .xor, .int k n => if k.signed = true then none else binInt .xor k k.max n
  | .neg, .int k n => some (.int k (k.wrap (0 - n)))
  | _, _ => none

/-- The character at the head of a text, and its width. -/
def decL (s : List UInt8) : Nat × Nat :=
  let at' (k : Nat) : Nat := (s.getD k 0).toNat
  let cont (k : Nat) : Bool := decide (k < s.length) && at' k / 64 == 2
  let b0 := at' 0
  if b0 < 0x80 then (b0, 1)
  else if b0 / 32 == 6 && cont 1 then
    let c := (b0 % 32) * 64 + at' 1 % 64
    if c ≥ 0x80 then (c, 2) else (Utf8.runeError, 1)
  else if b0 / 16 == 14 && cont 1 && cont 2 then
    let c := (b0 % 16) * 4096 + (at' 1 % 64) * 64 + at' 2 % 64
    if c ≥ 0x800 && Utf8.valid c then (c, 3) else (Utf8.runeError, 1)
  else if b0 / 8 == 30 && cont 1 && cont 2 && cont 3 then
    let c := (b0 % 8) * 262144 + (at' 1 % 64) * 4096 + (at' 2 % 64) * 64 + at' 3 % 64
    if c ≥ 0x10000 && Utf8.valid c then (c, 4) else (Utf8.runeError, 1)
  else (Utf8.runeError, 1)

def encL (n : Int) : List UInt8 := (Utf8.encode n).data.toList

/-- All characters of a text; of bytes that are none, one U+FFFD a byte. -/
def runesL : Nat → List UInt8 → List Nat
  | 0, _ => []
  | b + 1, s => match s with
    | [] => []
    | c :: r => (decL (c :: r)).1 :: runesL b ((c :: r).drop (decL (c :: r)).2)

def bytesOf : List V → Option (List UInt8)
  | [] => some []
  | .int .u8 n :: r => (bytesOf r).map (UInt8.ofNat n.toNat :: ·)
  | _ => none
def runesOf : List V → Option (List UInt8)
  | [] => some []
  | .int .i32 n :: r => (runesOf r).map (encL n ++ ·)
  | _ => none

/-- The cells of a slice, as many as it tells. -/
def readSl (lim : Nat) (H : Heap) (esz : Nat) : V → Option (Nat × List V)
  | .sl _ cs n => if cs.length = n * esz then some (n, cs) else none
  | .view k g off n => if k < lim then (match H[k]? with
    | some (.cells g' _ _ cs) => if g = g' ∧ off + n * esz ≤ cs.length then some (n, (cs.drop off).take (n * esz)) else none
    | _ => none) else none
  | _ => none

def convV (lim : Nat) (H : Heap) : CK → V → Option V
  | .int k, .int _ n => some (.int k (k.wrap n))
  | .runeStr, .int _ n => some (.str (encL n))
  | .bytesStr, v => (readSl lim H 1 v).bind fun p => (bytesOf p.2).map .str
  | .runesStr, v => (readSl lim H 1 v).bind fun p => (runesOf p.2).map .str
  | .strBytes, .str s => some (.sl false (s.map fun b => .int .u8 b.toNat) s.length)
  | .strRunes, .str s => some (.sl false ((runesL s.length s).map fun (r : Nat) => .int .i32 r) (runesL s.length s).length)
  | _, _ => none

def loadV (lim : Nat) (agg : Bool) (sz : Nat) (H : Heap) (v : V) : Option V :=
  let out (cs : List V) (off : Nat) : Option V :=
    if agg then (if off + sz ≤ cs.length then some (.agg ((cs.drop off).take sz)) else none) else cs[off]?
  match v with
  | .cell k g off => if k < lim then (match H[k]? with
    | some (.cells g' _ _ cs) => if g = g' then out cs off else none
    | _ => none) else none
  | .rptr cs off => out cs off
  | _ => none

def boundOf (d : Nat) (e : Env) : Option X → Option Int
  | none => some d
  | some x => match x.ev e with
    | .int _ n => some n
    | _ => none

def sliceV (lim : Nat) (H : Heap) (esz : Nat) (v : V) (lo hi mx : Option X) (e : Env) : Option V :=
  match v with
  | .sl ex cs n => (boundOf 0 e lo).bind fun l => (boundOf n e hi).bind fun h => (boundOf n e mx).bind fun m =>
    if 0 ≤ l ∧ l ≤ h ∧ h ≤ m ∧ m ≤ n ∧ cs.length = n * esz ∧ (hi.isNone → mx.isNone) then
      some (.sl (if mx.isSome = true then decide (h = m) else ex && decide (h = n)) ((cs.drop (l.toNat * esz)).take ((h - l).toNat * esz)) (h - l).toNat) else none
  | .view k g off n => (boundOf 0 e lo).bind fun l => (boundOf n e hi).bind fun h =>
    if 0 ≤ l ∧ l ≤ h ∧ h ≤ n ∧ mx.isNone ∧ k < lim ∧ genOf H k = g ∧ eszOf H k = esz then (if l = n ∧ n ≠ 0 then some (.sl false [] 0) else some (.view k g (off + l.toNat * esz) (h - l).toNat)) else none
  | _ => none

def slstrV (v : V) (lo hi : Option X) (e : Env) : Option V :=
  match v with
  | .str s => (boundOf 0 e lo).bind fun l => (boundOf s.length e hi).bind fun h =>
    if 0 ≤ l ∧ l ≤ h ∧ h ≤ s.length then some (.str ((s.drop l.toNat).take (h - l).toNat)) else none
  | _ => none

def srcCells (H : Heap) (esz : Nat) : V → Option (Nat × List V)
  | .str s => some (s.length, s.map fun b => .int .u8 b.toNat)
  | v => readSl H.length H esz v

def appendV (esz bytes : Nat) (H : Heap) (x y : V) : Option (V × Heap) :=
  match srcCells H esz y with
  | none => none
  | some (m, new) =>
    match x with
    | .sl ex cs n =>
      if new.length = m * esz ∧ cs.length = n * esz then
        if m = 0 then some (.sl ex cs n, H)
        else if ex = true ∧ (n + m) * bytes ≤ 140737488355328 ∧ n + m ≤ 9223372036854775807 then
          some (.view H.length 0 0 (n + m), H ++ [.cells 0 esz true (cs ++ new)]) else none
      else none
    | .view k g off n =>
      if new.length = m * esz then
        if m = 0 then some (.view k g off n, H)
        else match H[k]? with
          | some (.cells g' e' true cs) =>
            if g = g' ∧ e' = esz ∧ off = 0 ∧ n * esz ≤ cs.length ∧ (n + m) * bytes ≤ 140737488355328 ∧ n + m ≤ 9223372036854775807 ∧ new.all V.isCell = true then
              some (.view k (g + 1) 0 (n + m), H.set k (.cells (g + 1) esz true (cs.take (n * esz) ++ new))) else none
          | _ => none
      else none
    | _ => none

def lenV : Bool → V → Option Nat
  | true, .str s => some s.length
  | false, .sl _ _ n => some n
  | false, .view _ _ _ n => some n
  | _, _ => none

/-- Is a place apart from these? -/
def apart (v : V) (ws : List V) : Bool :=
  match v with
  | .cell k _ _ => ws.all fun w => match w with
    | .cell k' _ _ => k' != k
    | _ => false
  | .rptr _ _ => true
  | _ => false

def evParts (e : Env) (ps : List (Nat × Nat × X)) : List (Nat × Nat × V) := ps.map fun p => (p.1, p.2.1, p.2.2.ev e)

/-- Maps: is a key the same? -/
def keyEq : Nat → V → V → Option Bool
  | 0, .int k a, .int k' b => if k = k' then some (a == b) else none
  | 1, .str a, .str b => some (a == b)
  | 2, .bool a, .bool b => some (a == b)
  | _, _, _ => none
def findE (c : Nat) (k : V) : List (V × V) → Nat → Option (Option (Nat × V))
  | [], _ => some none
  | (a, v) :: es, i => match keyEq c k a with
    | some true => some (some (i, v))
    | some false => findE c k es (i + 1)
    | none => none
def putE (es : List (V × V)) (k v : V) : Option (Nat × V) → List (V × V)
  | some (i, _) => es.set i (k, v)
  | none => es ++ [(k, v)]
def delE (es : List (V × V)) : Option (Nat × V) → List (V × V)
  | some (i, _) => es.eraseIdx i
  | none => es
def gotV (ok : Bool) (zero : V) : Option (Nat × V) → V
  | some (_, v) => if ok = true then .tup [v, .bool true] else v
  | none => if ok = true then .tup [zero, .bool false] else zero

/-- An operation that calls nothing: its value, and memory behind it. -/
def stepO (lim : Nat) (o : O) (e : Env) (H : Heap) : Option (V × Heap) :=
  match o with
  | .mov x => some (x.ev e, H)
  | .pick c a b => match c.ev e with
    | .bool t => some (if t = true then a.ev e else b.ev e, H)
    | _ => none
  | .box x => if (x.ev e).boxable = true then some (.cell H.length 0 0, H ++ [.cells 0 0 true (x.ev e).cells]) else none
  | .build z ps => (fillL z (evParts e ps)).map fun cs => (.agg cs, H)
  | .mksl z len ps => (fillL z (evParts e ps)).map fun cs => (.sl true cs len, H)
  | .mkslh esz z len ps => (fillL z (evParts e ps)).map fun cs => (.view H.length 0 0 len, H ++ [.cells 0 esz true cs])
  | .load agg sz a => (loadV lim agg sz H (a.ev e)).map (·, H)
  | .store sz a v => match a.ev e with
    | .cell k g off => match H[k]? with
      | some (.cells g' esz true cs) =>
        if g = g' ∧ (v.ev e).cells.length = sz ∧ off + sz ≤ cs.length ∧ (v.ev e).cells.all V.isCell = true then
          some (.und, H.set k (.cells g' esz true (splice cs off (v.ev e).cells))) else none
      | _ => none
    | _ => none
  | .nilck x => match x.ev e with
    | .cell k g off => some (.cell k g off, H)
    | .rptr cs off => some (.rptr cs off, H)
    | .fn f a b => some (.fn f a b, H)
    | _ => none
  | .bin cls op x y => (binV cls op (x.ev e) (y.ev e)).map (·, H)
  | .un op x => (unV op (x.ev e)).map (·, H)
  | .conv k x => (convV lim H k (x.ev e)).map (·, H)
  | .mkfn f fi ca => some (.fn f (fi.map (·.ev e)) (ca.map (·.ev e)), H)
  | .mkslice esz bytes z l c => match l.ev e, c.ev e with
    | .int _ n, .int _ m => if 0 ≤ n ∧ n ≤ m ∧ m * bytes ≤ 281474976710656 ∧ m ≤ 281474976710656 then
        some (.view H.length 0 0 n.toNat, H ++ [.cells 0 esz true (List.replicate n.toNat z).flatten]) else none
    | _, _ => none
  | .slice esz x lo hi mx => (sliceV lim H esz (x.ev e) lo hi mx e).map (·, H)
  | .slstr x lo hi => (slstrV (x.ev e) lo hi e).map (·, H)
  | .faddr o x => match x.ev e with
    | .cell k g off => some (.cell k g (off + o), H)
    | .rptr cs off => some (.rptr cs (off + o), H)
    | _ => none
  | .field agg off sz x => match x.ev e with
    | .agg cs => if agg then (if off + sz ≤ cs.length then some (.agg ((cs.drop off).take sz), H) else none) else (cs[off]?).map (·, H)
    | _ => none
  | .iaddr esz x i => match x.ev e, i.ev e with
    | .sl _ cs n, .int _ j => if 0 ≤ j ∧ j < n then some (.rptr cs (j.toNat * esz), H) else none
    | .view k g off n, .int _ j => if 0 ≤ j ∧ j < n then some (.cell k g (off + j.toNat * esz), H) else none
    | _, _ => none
  | .aaddr esz n x i => match x.ev e, i.ev e with
    | .rptr cs off, .int _ j => if 0 ≤ j ∧ j < n then some (.rptr cs (off + j.toNat * esz), H) else none
    | .cell k g off, .int _ j => if 0 ≤ j ∧ j < n then some (.cell k g (off + j.toNat * esz), H) else none
    | _, _ => none
  | .index x i => match x.ev e, i.ev e with
    | .str s, .int _ j => if 0 ≤ j then (s[j.toNat]?).map fun b => (.int .u8 b.toNat, H) else none
    | _, _ => none
  | .extract x i => match x.ev e with
    | .tup vs => (vs[i]?).map (·, H)
    | _ => none
  | .len str x => (lenV str (x.ev e)).map fun (n : Nat) => (V.int .i64 (n : Int), H)
  | .append esz bytes x y => appendV esz bytes H (x.ev e) (y.ev e)
  | .mx x y => match x.ev e, y.ev e with
    | .int k a, .int _ b => some (.int k (if b > a then b else a), H)
    | _, _ => none
  | .mn x y => match x.ev e, y.ev e with
    | .int k a, .int _ b => some (.int k (if b < a then b else a), H)
    | _, _ => none
  | .loadx agg sz a av => if apart (a.ev e) (av.map (·.ev e)) = true then (loadV lim agg sz H (a.ev e)).map (·, H) else none
  | .isnil neg x => match x.ev e with
    | .sl _ cs n => if cs.isEmpty = true ∧ n = 0 then some (.anyb, H) else some (.bool neg, H)
    | .view _ _ _ _ => some (.bool neg, H)
    | _ => none
  | .range x => match x.ev e with
    | .str s => some (.cell H.length 0 0, H ++ [.iter s 0])
    | _ => none
  | .next x => match x.ev e with
    | .cell k 0 0 => match H[k]? with
      | some (.iter s pos) => if pos < s.length then
          some (.tup [.bool true, .int .i64 pos, .int .i32 (decL (s.drop pos)).1], H.set k (.iter s (pos + (decL (s.drop pos)).2)))
        else some (.tup [.bool false], H)
      | _ => none
    | _ => none
  | .mkmap => some (.mp H.length, H ++ [.map []])
  | .lookup c ok z m k => match m.ev e with
    | .mnil => some (gotV ok z none, H)
    | .mp j => match H[j]? with
      | some (.map es) => (findE c (k.ev e) es 0).map fun r => (gotV ok z r, H)
      | _ => none
    | _ => none
  | .mapset c m k v => match m.ev e with
    | .mp j => match H[j]? with
      | some (.map es) => (findE c (k.ev e) es 0).map fun r => (.und, H.set j (.map (putE es (k.ev e) (v.ev e) r)))
      | _ => none
    | _ => none
  | .mapdel c m k => match m.ev e with
    | .mp j => match H[j]? with
      | some (.map es) => (findE c (k.ev e) es 0).map fun r => (.tup [], H.set j (.map (delE es r)))
      | _ => none
    | _ => none
  | .mlen x => match x.ev e with
    | .mnil => some (.int .i64 0, H)
    | .mp j => match H[j]? with
      | some (.map es) => some (.int .i64 (es.length : Nat), H)
      | _ => none
    | _ => none
  | .clear esz z x => match x.ev e with
    | .view k g off n => match H[k]? with
      | some (.cells g' e' true cs) => if g = g' ∧ e' = esz ∧ 0 < n ∧ off + n * esz ≤ cs.length then some (.tup [], H.set k (.cells g' e' true (splice cs off (List.replicate n z).flatten))) else none
      | _ => none
    | _ => none

end Fe
namespace Fe
open Go Go.RowKit

section
variable {P : Program} {Out : Nat → Prop} {ρ : Nat → Nat} {H : Heap} {Bad : Nat → Prop} {w : World}

theorem mapM_some_get {α β : Type} {f : α → Option β} : ∀ {l : List α} {r : List β}, l.mapM f = some r →
    l.length = r.length ∧ ∀ i (h : i < r.length) (h' : i < l.length), f l[i] = some r[i]
  | [], r, h => by
    simp at h; subst h; exact ⟨rfl, fun i h => by simp at h⟩
  | x :: l, r, h => by
    rw [List.mapM_cons] at h
    simp only [Option.bind_eq_bind,Option.bind_eq_some_iff,Option.pure_def,Option.some.injEq] at h
    obtain ⟨y, hy, ys, hys, rfl⟩ := h
    obtain ⟨h1, h2⟩ := mapM_some_get hys
    refine ⟨by simp [h1], fun i hi hi' => ?_⟩
    cases i with
    | zero => exact hy
    | succ i => exact h2 i (by simpa using hi) (by simpa using hi')

theorem constV_rel : ∀ {n : Nat} {v : Value} {x : V}, constV n v = some x → Rel ρ H Bad w x v
  | 0, v, x, h => by simp [constV] at h
  | n + 1, v, x, h => by
    unfold constV at h
    split at h
    · cases h; exact .bool _
    · cases h; exact .int _ _
    · cases h; exact .str _
    · cases h; exact .nilp
    · cases h; exact .slnil _
    · cases h; exact .nilf
    · cases h; exact .mnil
    · split at h
      · rename_i f a b hab
        cases h
        simp only [Bool.and_eq_true,Array.isEmpty_iff] at hab
        obtain ⟨rfl, rfl⟩ := hab
        exact .fn _ [] [] #[] #[] rfl rfl (fun i h => by simp at h) (fun i h => by simp at h)
      · cases h
    · rename_i cs
      cases hm : List.mapM (constV n) cs.toList with
      | none => rw [hm] at h; cases h
      | some r =>
        rw [hm] at h
        cases h
        obtain ⟨h1, h2⟩ := mapM_some_get hm
        refine .agg _ _ (by simpa using h1) (fun i hi => ?_)
        have hi' : i < cs.size := by simp at h1; omega
        have := h2 i hi (by simpa using hi')
        have hg : cs.getD i undef = cs.toList[i]'(by simpa using hi') := by simp [Array.getD, hi']
        rw [hg]
        exact constV_rel this
    · cases h

/-- The temporaries are as the environment tells. -/
def ERel (Out : Nat → Prop) (ρ : Nat → Nat) (H : Heap) (w : World) (e : Env) (a : Act) : Prop :=
  ∀ t, Rel ρ H (BadIn Out ρ H) w (e t) (a.tmps.getD t undef)

theorem stripX_rel {e : Env} {a : Act} (hI : HInv P Out ρ H w) (hE : ERel Out ρ H w e a) {x : Operand} {cx : X} (h : stripX P x = some cx) :
    Rel ρ H (BadIn Out ρ H) w (cx.ev e) (a.eval x) := by
  cases x with
  | tmp t => cases h; exact hE t
  | const v =>
    simp only [stripX,Option.map_eq_some_iff] at h
    obtain ⟨y, hy, rfl⟩ := h
    exact constV_rel hy
  | global g =>
    simp only [stripX,Option.map_eq_some_iff] at h
    obtain ⟨ns, hg, rfl⟩ := h
    exact hI.base.rel hg
  | func f =>
    cases h
    exact .fn f [] [] #[] #[] rfl rfl (fun i h => by simp at h) (fun i h => by simp at h)

/-- What one operation does. -/
def Does (P : Program) (a : Act) (o : Oper) (Out : Nat → Prop) (ρ : Nat → Nat) (H : Heap) (w : World) (v : V) (H' : Heap) : Prop :=
  ∃ ρ' w', Tr ρ H w ρ' H' w' ∧ HInv P Out ρ' H' w' ∧
    ((∃ c, (execOp a.eval o).run P w = .ok (.value c) w' ∧ Rel ρ' H' (BadIn Out ρ' H') w' v c) ∨ ((execOp a.eval o).run P w = .ok .skip w' ∧ v = .und))

theorem Does.pure {a : Act} {o : Oper} {v : V} {c : Value} (hI : HInv P Out ρ H w) (hr : (execOp a.eval o).run P w = .ok (.value c) w)
    (hc : Rel ρ H (BadIn Out ρ H) w v c) : Does P a o Out ρ H w v H :=
  ⟨ρ, w, .refl ρ H w, hI, .inl ⟨c, hr, hc⟩⟩

theorem Rel.int_inv {k : IntKind} {n : Int} {c : Value} (h : Rel ρ H Bad w (.int k n) c) : c = .int k n := by cases h; rfl
theorem Rel.bool_inv {b : Bool} {c : Value} (h : Rel ρ H Bad w (.bool b) c) : c = .bool b := by cases h; rfl
theorem Rel.str_inv {s : List UInt8} {c : Value} (h : Rel ρ H Bad w (.str s) c) : ∃ ba : ByteArray, ba.data.toList = s ∧ c = .string ba := by cases h; exact ⟨_, rfl, rfl⟩
theorem Rel.cells {v : V} {c : Value} (h : Rel ρ H Bad w v c) (hu : v.isCell = true ∨ ∃ cs, v = .agg cs) :
    c.cells.size = v.cells.length ∧ ∀ i (h : i < v.cells.length), Rel ρ H Bad w v.cells[i] (c.cells.getD i undef) := by
  have one : ∀ {v : V} {c : Value}, Rel ρ H Bad w v c → v.cells = [v] → c.cells = #[c] → c.cells.size = v.cells.length ∧ ∀ i (h : i < v.cells.length), Rel ρ H Bad w v.cells[i] (c.cells.getD i undef) := by
    intro v c h h1 h2
    rw [h2]
    refine ⟨by simp [h1], fun i hi => ?_⟩
    have : i = 0 := by rw [h1] at hi; simpa using hi
    subst this
    simpa [h1] using h
  cases h with
  | agg cs arr h1 h2 => exact ⟨h1, h2⟩
  | und c => simp [V.isCell] at hu
  | tup cs arr h1 h2 => simp [V.isCell] at hu
  | bool b => exact one (.bool b) rfl rfl
  | anyb b => exact one (.anyb b) rfl rfl
  | yld k B h1 h2 => exact one (.yld k B h1 h2) rfl rfl
  | mp k B h1 h2 => exact one (.mp k B h1 h2) rfl rfl
  | mnil => exact one .mnil rfl rfl
  | int k n => exact one (.int k n) rfl rfl
  | str s => exact one (.str s) rfl rfl
  | nilp => exact one .nilp rfl rfl
  | cell k g off B h1 h2 h3 => exact one (.cell k g off B h1 h2 h3) rfl rfl
  | rptr cs off B o f h1 h2 h3 => exact one (.rptr cs off B o f h1 h2 h3) rfl rfl
  | sl ex cs n B o cap f h1 h2 h3 h4 h5 => exact one (.sl ex cs n B o cap f h1 h2 h3 h4 h5) rfl rfl
  | slnil ex => exact one (.slnil ex) rfl rfl
  | view k g off n B cap h1 h2 h3 h4 => exact one (.view k g off n B cap h1 h2 h3 h4) rfl rfl
  | fn f fs cs fa ca h1 h2 h3 h4 => exact one (.fn f fs cs fa ca h1 h2 h3 h4) rfl rfl
  | nilf => exact one .nilf rfl rfl

end
end Fe
namespace Fe
open Go Go.RowKit

section
variable {P : Program} {Out : Nat → Prop} {ρ : Nat → Nat} {H : Heap} {w w' : World}

theorem getElem?_lt {α : Type} {l : List α} {k : Nat} {x : α} (h : l[k]? = some x) : k < l.length := by
  rcases Nat.lt_or_ge k l.length with h1 | h1
  · exact h1
  · simp [List.getElem?_eq_none h1] at h

theorem genOf_push (o : HObj) {k : Nat} (h : k < H.length) : genOf (H ++ [o]) k = genOf H k := by
  simp [genOf, List.getElem?_append_left h]
theorem eszOf_push (o : HObj) {k : Nat} (h : k < H.length) : eszOf (H ++ [o]) k = eszOf H k := by
  simp [eszOf, List.getElem?_append_left h]

def ext (ρ : Nat → Nat) (n B : Nat) : Nat → Nat := fun i => if i = n then B else ρ i
theorem ext_lt {n B k : Nat} (h : k < n) : ext ρ n B k = ρ k := by simp [ext]; omega
theorem ext_at {n B : Nat} : ext ρ n B n = B := by simp [ext]

theorem mut_push {o : HObj} {B n : Nat} (h : Mut (ext ρ H.length n) (H ++ [o]) B) : B = n ∨ Mut ρ H B := by
  obtain ⟨k, x, hk, hm, rfl⟩ := h
  have := getElem?_lt hk
  simp at this
  rcases Nat.lt_or_ge k H.length with h1 | h1
  · right
    rw [List.getElem?_append_left h1] at hk
    exact ⟨k, x, hk, hm, (ext_lt h1).symm⟩
  · left
    have : k = H.length := by omega
    subst this
    exact ext_at

theorem heap_push_lt {o : Obj} {B : Nat} (hw : w'.heap = w.heap.push o) (h : B < w.heap.size) : w'.heap[B]? = w.heap[B]? := by
  rw [hw, Array.getElem?_push, if_neg (by omega)]

theorem Tr.push (hI : HInv P Out ρ H w) (o : HObj) (x : Obj) (h1 : w'.os = w.os) (h2 : w'.tape = w.tape) (h3 : w'.output = w.output) (hw : w'.heap = w.heap.push x) :
    Tr ρ H w (ext ρ H.length w.heap.size) (H ++ [o]) w' where
  os := h1
  tape := h2
  output := h3
  size := by rw [hw]; simp
  keep := fun B hB _ => heap_push_lt hw hB
  len := by simp
  gen := fun k hk => by rw [genOf_push o hk]; exact Nat.le_refl _
  same := fun k hk _ => by
    refine ⟨ext_lt hk, eszOf_push o hk, fun arr T fz hc => ?_⟩
    rw [heap_push_lt hw (hI.lt k hk).1] at hc
    exact ⟨arr, T, fz, hc, rfl⟩
  wrt := fun B hB hm => by
    rcases mut_push hm with h | h
    · omega
    · exact h

theorem bad_mono {ρ' : Nat → Nat} {H' : Heap} (t : Tr ρ H w ρ' H' w') : ∀ B, B < w.heap.size → BadIn Out ρ' H' B → BadIn Out ρ H B := by
  intro B hB h
  rcases h with h | h
  · exact .inl h
  · exact .inr (t.wrt B hB h)

theorem Rel.step {ρ' : Nat → Nat} {H' : Heap} (t : Tr ρ H w ρ' H' w') {v : V} {c : Value} (h : Rel ρ H (BadIn Out ρ H) w v c) : Rel ρ' H' (BadIn Out ρ' H') w' v c :=
  h.mono t (fun _ h => .inr h) (bad_mono t)

theorem Base.step {ρ' : Nat → Nat} {H' : Heap} (t : Tr ρ H w ρ' H' w') (h : Base P (BadIn Out ρ H) w) : Base P (BadIn Out ρ' H') w' :=
  h.mono t (fun _ h => .inr h) (bad_mono t)

theorem ERel.step {ρ' : Nat → Nat} {H' : Heap} (t : Tr ρ H w ρ' H' w') {e : Env} {a : Act} (h : ERel Out ρ H w e a) : ERel Out ρ' H' w' e a :=
  fun i => (h i).step t

/-- A new block of cells. -/
theorem HInv.push_cells (hI : HInv P Out ρ H w) {esz : Nat} {own : Bool} {cs : List V} {arr : Array Value} {T : TypeId}
    (h1 : w'.os = w.os) (h2 : w'.tape = w.tape) (h3 : w'.output = w.output) (hw : w'.heap = w.heap.push (.cells arr T (0, 0)))
    (hl : cs.length ≤ arr.size) (hr : ∀ i (h : i < cs.length), Rel ρ H (BadIn Out ρ H) w cs[i] (arr.getD i undef)) :
    HInv P Out (ext ρ H.length w.heap.size) (H ++ [.cells 0 esz own cs]) w' := by
  have t := Tr.push hI (.cells 0 esz own cs) _ h1 h2 h3 hw
  have hsz : w'.heap.size = w.heap.size + 1 := by rw [hw]; simp
  have hnew : w'.heap[w.heap.size]? = some (.cells arr T (0, 0)) := by rw [hw]; simp
  have hlen : (H ++ [HObj.cells 0 esz own cs]).length = H.length + 1 := by simp
  refine ⟨fun B hB => by have := hI.out B hB; omega, fun i j hi hj he => ?_, fun k hk => ?_, fun k g e' o' cs' hk => ?_, fun k s pos hk => ?_, fun k S ps e st pend hk => ?_, fun k es hk => ?_, hI.base.step t⟩
  · rw [hlen] at hi hj
    rcases Nat.lt_or_ge i H.length with hi' | hi' <;> rcases Nat.lt_or_ge j H.length with hj' | hj'
    · rw [ext_lt hi', ext_lt hj'] at he; exact hI.inj i j hi' hj' he
    · have : j = H.length := by omega
      subst this
      rw [ext_lt hi', ext_at] at he
      have := (hI.lt i hi').1; omega
    · have : i = H.length := by omega
      subst this
      rw [ext_lt hj', ext_at] at he
      have := (hI.lt j hj').1; omega
    · omega
  · rw [hlen] at hk
    rcases Nat.lt_or_ge k H.length with hk' | hk'
    · rw [ext_lt hk']
      have := hI.lt k hk'
      exact ⟨by omega, this.2⟩
    · have : k = H.length := by omega
      subst this
      rw [ext_at]
      exact ⟨by omega, fun h => by have := hI.out _ h; omega⟩
  · have hk2 := getElem?_lt hk
    rw [hlen] at hk2
    rcases Nat.lt_or_ge k H.length with hk' | hk'
    · rw [List.getElem?_append_left hk'] at hk
      obtain ⟨arr', T', h4, h5, h6⟩ := hI.cells k g e' o' cs' hk
      rw [ext_lt hk', heap_push_lt hw (hI.lt k hk').1]
      exact ⟨arr', T', h4, h5, fun i hi => (h6 i hi).step t⟩
    · have : k = H.length := by omega
      subst this
      rw [List.getElem?_append_right (by omega)] at hk
      simp at hk
      obtain ⟨rfl, rfl, rfl, rfl⟩ := hk
      rw [ext_at]
      exact ⟨arr, T, hnew, hl, fun i hi => (hr i hi).step t⟩
  · have hk2 := getElem?_lt hk
    rw [hlen] at hk2
    rcases Nat.lt_or_ge k H.length with hk' | hk'
    · rw [List.getElem?_append_left hk'] at hk
      obtain ⟨ba, h4, h5⟩ := hI.iter k s pos hk
      rw [ext_lt hk', heap_push_lt hw (hI.lt k hk').1]
      exact ⟨ba, h4, h5⟩
    · have : k = H.length := by omega
      subst this
      rw [List.getElem?_append_right (by omega)] at hk
      simp at hk
  · have hk2 := getElem?_lt hk
    rw [hlen] at hk2
    rcases Nat.lt_or_ge k H.length with hk' | hk'
    · rw [List.getElem?_append_left hk'] at hk
      rw [ext_lt hk']
      exact (hI.loop k _ _ _ _ _ hk).mono (fun h => h.step t) (heap_push_lt hw (hI.lt k hk').1)
    · have : k = H.length := by omega
      subst this
      rw [List.getElem?_append_right (by omega)] at hk
      simp at hk
  · have hk2 := getElem?_lt hk
    rw [hlen] at hk2
    rcases Nat.lt_or_ge k H.length with hk' | hk'
    · rw [List.getElem?_append_left hk'] at hk
      rw [ext_lt hk']
      exact (hI.map k _ hk).mono (fun h => h.step t) (heap_push_lt hw (hI.lt k hk').1)
    · have : k = H.length := by omega
      subst this
      rw [List.getElem?_append_right (by omega)] at hk
      simp at hk

theorem HInv.push_iter (hI : HInv P Out ρ H w) {ba : ByteArray} {pos : Nat}
    (h1 : w'.os = w.os) (h2 : w'.tape = w.tape) (h3 : w'.output = w.output) (hw : w'.heap = w.heap.push (.stringIter ba pos)) :
    HInv P Out (ext ρ H.length w.heap.size) (H ++ [.iter ba.data.toList pos]) w' := by
  have t := Tr.push hI (.iter ba.data.toList pos) _ h1 h2 h3 hw
  have hsz : w'.heap.size = w.heap.size + 1 := by rw [hw]; simp
  have hnew : w'.heap[w.heap.size]? = some (.stringIter ba pos) := by rw [hw]; simp
  have hlen : (H ++ [HObj.iter ba.data.toList pos]).length = H.length + 1 := by simp
  refine ⟨fun B hB => by have := hI.out B hB; omega, fun i j hi hj he => ?_, fun k hk => ?_, fun k g e' o' cs' hk => ?_, fun k s p hk => ?_, fun k S ps e st pend hk => ?_, fun k es hk => ?_, hI.base.step t⟩
  · rw [hlen] at hi hj
    rcases Nat.lt_or_ge i H.length with hi' | hi' <;> rcases Nat.lt_or_ge j H.length with hj' | hj'
    · rw [ext_lt hi', ext_lt hj'] at he; exact hI.inj i j hi' hj' he
    · have : j = H.length := by omega
      subst this
      rw [ext_lt hi', ext_at] at he
      have := (hI.lt i hi').1; omega
    · have : i = H.length := by omega
      subst this
      rw [ext_lt hj', ext_at] at he
      have := (hI.lt j hj').1; omega
    · omega
  · rw [hlen] at hk
    rcases Nat.lt_or_ge k H.length with hk' | hk'
    · rw [ext_lt hk']
      have := hI.lt k hk'
      exact ⟨by omega, this.2⟩
    · have : k = H.length := by omega
      subst this
      rw [ext_at]
      exact ⟨by omega, fun h => by have := hI.out _ h; omega⟩
  · have hk2 := getElem?_lt hk
    rw [hlen] at hk2
    rcases Nat.lt_or_ge k H.length with hk' | hk'
    · rw [List.getElem?_append_left hk'] at hk
      obtain ⟨arr', T', h4, h5, h6⟩ := hI.cells k g e' o' cs' hk
      rw [ext_lt hk', heap_push_lt hw (hI.lt k hk').1]
      exact ⟨arr', T', h4, h5, fun i hi => (h6 i hi).step t⟩
    · have : k = H.length := by omega
      subst this
      rw [List.getElem?_append_right (by omega)] at hk
      simp at hk
  · have hk2 := getElem?_lt hk
    rw [hlen] at hk2
    rcases Nat.lt_or_ge k H.length with hk' | hk'
    · rw [List.getElem?_append_left hk'] at hk
      obtain ⟨ba', h4, h5⟩ := hI.iter k s p hk
      rw [ext_lt hk', heap_push_lt hw (hI.lt k hk').1]
      exact ⟨ba', h4, h5⟩
    · have : k = H.length := by omega
      subst this
      rw [List.getElem?_append_right (by omega)] at hk
      simp at hk
      obtain ⟨rfl, rfl⟩ := hk
      rw [ext_at]
      exact ⟨ba, rfl, hnew⟩
  · have hk2 := getElem?_lt hk
    rw [hlen] at hk2
    rcases Nat.lt_or_ge k H.length with hk' | hk'
    · rw [List.getElem?_append_left hk'] at hk
      rw [ext_lt hk']
      exact (hI.loop k _ _ _ _ _ hk).mono (fun h => h.step t) (heap_push_lt hw (hI.lt k hk').1)
    · have : k = H.length := by omega
      subst this
      rw [List.getElem?_append_right (by omega)] at hk
      simp at hk
  · have hk2 := getElem?_lt hk
    rw [hlen] at hk2
    rcases Nat.lt_or_ge k H.length with hk' | hk'
    · rw [List.getElem?_append_left hk'] at hk
      rw [ext_lt hk']
      exact (hI.map k _ hk).mono (fun h => h.step t) (heap_push_lt hw (hI.lt k hk').1)
    · have : k = H.length := by omega
      subst this
      rw [List.getElem?_append_right (by omega)] at hk
      simp at hk

/-- Memory beyond the heap's: a new block that is only read. -/
theorem Tr.grow (hI : HInv P Out ρ H w) (x : Obj) (h1 : w'.os = w.os) (h2 : w'.tape = w.tape) (h3 : w'.output = w.output) (hw : w'.heap = w.heap.push x) :
    Tr ρ H w ρ H w' where
  os := h1
  tape := h2
  output := h3
  size := by rw [hw]; simp
  keep := fun B hB _ => heap_push_lt hw hB
  len := Nat.le_refl _
  gen := fun k hk => Nat.le_refl _
  same := fun k hk _ => by
    refine ⟨rfl, rfl, fun arr T fz hc => ?_⟩
    rw [heap_push_lt hw (hI.lt k hk).1] at hc
    exact ⟨arr, T, fz, hc, rfl⟩
  wrt := fun B hB hm => hm

/-- Nothing of the heap's has turned. -/
theorem HInv.kept (hI : HInv P Out ρ H w) (t : Tr ρ H w ρ H w') (hk : ∀ k, k < H.length → w'.heap[ρ k]? = w.heap[ρ k]?) : HInv P Out ρ H w' := by
  refine ⟨fun B hB => Nat.lt_of_lt_of_le (hI.out B hB) t.size, hI.inj, fun k h => ⟨Nat.lt_of_lt_of_le (hI.lt k h).1 t.size, (hI.lt k h).2⟩, fun k g e' o' cs' h => ?_, fun k s p h => ?_, fun k S ps e st pend h => (hI.loop k _ _ _ _ _ h).mono (fun h => h.step t) (hk k (getElem?_lt h)), fun k es h => (hI.map k _ h).mono (fun h => h.step t) (hk k (getElem?_lt h)), hI.base.step t⟩
  · obtain ⟨arr', T', h4, h5, h6⟩ := hI.cells k g e' o' cs' h
    exact ⟨arr', T', by rw [hk k (getElem?_lt h)]; exact h4, h5, fun i hi => (h6 i hi).step t⟩
  · obtain ⟨ba', h4, h5⟩ := hI.iter k s p h
    exact ⟨ba', h4, by rw [hk k (getElem?_lt h)]; exact h5⟩

theorem HInv.grow (hI : HInv P Out ρ H w) (x : Obj) (h1 : w'.os = w.os) (h2 : w'.tape = w.tape) (h3 : w'.output = w.output) (hw : w'.heap = w.heap.push x) : HInv P Out ρ H w' :=
  hI.kept (.grow hI x h1 h2 h3 hw) fun k h => heap_push_lt hw (hI.lt k h).1

theorem HInv.notOut (hI : HInv P Out ρ H w) (B : Nat) (h : w.heap.size ≤ B) : ¬ BadIn Out ρ H B := by
  rintro (h1 | ⟨k, o, hk, _, rfl⟩)
  · have := hI.out B h1; omega
  · have := (hI.lt k (getElem?_lt hk)).1; omega

/-- A block of the heap is written: new cells, the size as it was. -/
theorem set_cells (hI : HInv P Out ρ H w) {k g g' esz : Nat} {own : Bool} {cs cs' : List V} {arr arr' : Array Value} {T : TypeId} (hk : H[k]? = some (.cells g esz own cs)) (ho : own = true)
    (harr : w.heap[ρ k]? = some (.cells arr T (0, 0))) (hg : g ≤ g')
    (h1 : w'.os = w.os) (h2 : w'.tape = w.tape) (h3 : w'.output = w.output) (hw : w'.heap = w.heap.set! (ρ k) (.cells arr' T (0, 0)))
    (hs : arr'.size = arr.size) (hl : cs'.length ≤ arr'.size)
    (hr : ∀ i (h : i < cs'.length), Rel ρ H (BadIn Out ρ H) w cs'[i] (arr'.getD i undef)) :
    Tr ρ H w ρ (H.set k (.cells g' esz own cs')) w' ∧ HInv P Out ρ (H.set k (.cells g' esz own cs')) w' := by
  have hk2 := getElem?_lt hk
  have hB := (hI.lt k hk2).1
  have hother : ∀ B, B ≠ ρ k → w'.heap[B]? = w.heap[B]? := by
    intro B hne
    rw [hw, Array.set!_eq_setIfInBounds, Array.getElem?_setIfInBounds, if_neg (Ne.symm hne)]
  have hthis : w'.heap[ρ k]? = some (.cells arr' T (0, 0)) := by
    rw [hw, Array.set!_eq_setIfInBounds, Array.getElem?_setIfInBounds, if_pos rfl, if_pos hB]
  have hsize : w'.heap.size = w.heap.size := by rw [hw]; simp
  have hgen : ∀ j, genOf (H.set k (.cells g' esz own cs')) j = if j = k then g' else genOf H j := by
    intro j
    by_cases h : j = k
    · subst h; simp [genOf, List.getElem?_set_self hk2, HObj.gen]
    · simp [genOf, List.getElem?_set_ne (Ne.symm h), h]
  have hesz : ∀ j, eszOf (H.set k (.cells g' esz own cs')) j = eszOf H j := by
    intro j
    by_cases h : j = k
    · subst h; simp only [eszOf,List.getElem?_set_self hk2,hk]; simp [HObj.esz]
    · simp [eszOf, List.getElem?_set_ne (Ne.symm h)]
  have hgk : genOf H k = g := by simp [genOf, hk, HObj.gen]
  have t : Tr ρ H w ρ (H.set k (.cells g' esz own cs')) w' := by
    refine ⟨h1, h2, h3, by omega, fun B hB hm => ?_, by simp, fun j hj => ?_, fun j hj _ => ?_, fun B hB hm => ?_⟩
    · exact hother B (fun e => hm ⟨k, _, hk, by simp [HObj.wr, ho], e.symm⟩)
    · rw [hgen]; split
      · rename_i h; subst h; omega
      · omega
    · refine ⟨rfl, hesz j, fun a T' fz hc => ?_⟩
      by_cases hjk : ρ j = ρ k
      · rw [hjk, hthis] at hc
        cases hc
        rw [hjk]
        exact ⟨arr, T, _, harr, hs.symm⟩
      · rw [hother _ hjk] at hc
        exact ⟨a, T', fz, hc, rfl⟩
    · obtain ⟨j, o, hj, hm', rfl⟩ := hm
      by_cases hjk : j = k
      · subst hjk; exact ⟨j, _, hk, by simp [HObj.wr, ho], rfl⟩
      · rw [List.getElem?_set, if_neg (Ne.symm hjk)] at hj
        exact ⟨j, o, hj, hm', rfl⟩
  refine ⟨t, fun B hB => by have := hI.out B hB; omega, fun i j hi hj => hI.inj i j (by simpa using hi) (by simpa using hj), fun j hj => ?_, fun j g₁ e₁ o₁ cs₁ hj => ?_, fun j s p hj => ?_, fun j S ps e st pend hj => ?_, fun j es hj => ?_, hI.base.step t⟩
  · have := hI.lt j (by simpa using hj)
    exact ⟨by omega, this.2⟩
  · by_cases hjk : j = k
    · subst hjk
      rw [List.getElem?_set, if_pos rfl, if_pos hk2] at hj
      cases hj
      exact ⟨arr', T, hthis, hl, fun i hi => (hr i hi).step t⟩
    · rw [List.getElem?_set, if_neg (Ne.symm hjk)] at hj
      obtain ⟨a₁, T₁, h4, h5, h6⟩ := hI.cells j g₁ e₁ o₁ cs₁ hj
      have hne : ρ j ≠ ρ k := fun e => hjk (hI.inj j k (getElem?_lt hj) hk2 e)
      exact ⟨a₁, T₁, by rw [hother _ hne]; exact h4, h5, fun i hi => (h6 i hi).step t⟩
  · by_cases hjk : j = k
    · subst hjk
      rw [List.getElem?_set, if_pos rfl, if_pos hk2] at hj
      cases hj
    · rw [List.getElem?_set, if_neg (Ne.symm hjk)] at hj
      obtain ⟨ba, h4, h5⟩ := hI.iter j s p hj
      have hne : ρ j ≠ ρ k := fun e => hjk (hI.inj j k (getElem?_lt hj) hk2 e)
      exact ⟨ba, h4, by rw [hother _ hne]; exact h5⟩
  · by_cases hjk : j = k
    · subst hjk
      rw [List.getElem?_set, if_pos rfl, if_pos hk2] at hj
      cases hj
    · rw [List.getElem?_set, if_neg (Ne.symm hjk)] at hj
      have hne : ρ j ≠ ρ k := fun e => hjk (hI.inj j k (getElem?_lt hj) hk2 e)
      exact (hI.loop j _ _ _ _ _ hj).mono (fun h => h.step t) (hother _ hne)
  · by_cases hjk : j = k
    · subst hjk
      rw [List.getElem?_set, if_pos rfl, if_pos hk2] at hj
      cases hj
    · rw [List.getElem?_set, if_neg (Ne.symm hjk)] at hj
      have hne : ρ j ≠ ρ k := fun e => hjk (hI.inj j k (getElem?_lt hj) hk2 e)
      exact (hI.map j _ hj).mono (fun h => h.step t) (hother _ hne)

/-- A slice that outgrows its block: the new one takes its place. -/
theorem move_cells (hI : HInv P Out ρ H w) {k g esz : Nat} {own : Bool} {cs cs' : List V} {arr' : Array Value} {T : TypeId} (hk : H[k]? = some (.cells g esz own cs))
    (h1 : w'.os = w.os) (h2 : w'.tape = w.tape) (h3 : w'.output = w.output) (hw : w'.heap = w.heap.push (.cells arr' T (0, 0)))
    (hl : cs'.length ≤ arr'.size)
    (hr : ∀ i (h : i < cs'.length), Rel ρ H (BadIn Out ρ H) w cs'[i] (arr'.getD i undef)) :
    Tr ρ H w (ext ρ k w.heap.size) (H.set k (.cells (g + 1) esz own cs')) w' ∧ HInv P Out (ext ρ k w.heap.size) (H.set k (.cells (g + 1) esz own cs')) w' := by
  have hk2 := getElem?_lt hk
  have hB := (hI.lt k hk2).1
  have hsize : w'.heap.size = w.heap.size + 1 := by rw [hw]; simp
  have hthis : w'.heap[w.heap.size]? = some (.cells arr' T (0, 0)) := by rw [hw]; simp
  have hgen : ∀ j, genOf (H.set k (.cells (g + 1) esz own cs')) j = if j = k then g + 1 else genOf H j := by
    intro j
    by_cases h : j = k
    · subst h; simp [genOf, List.getElem?_set_self hk2, HObj.gen]
    · simp [genOf, List.getElem?_set_ne (Ne.symm h), h]
  have hesz : ∀ j, eszOf (H.set k (.cells (g + 1) esz own cs')) j = eszOf H j := by
    intro j
    by_cases h : j = k
    · subst h; simp only [eszOf,List.getElem?_set_self hk2,hk]; simp [HObj.esz]
    · simp [eszOf, List.getElem?_set_ne (Ne.symm h)]
  have hgk : genOf H k = g := by simp [genOf, hk, HObj.gen]
  have hne : ∀ j, j ≠ k → ext ρ k w.heap.size j = ρ j := fun j h => by simp [ext, h]
  have hat : ext ρ k w.heap.size k = w.heap.size := by simp [ext]
  have t : Tr ρ H w (ext ρ k w.heap.size) (H.set k (.cells (g + 1) esz own cs')) w' := by
    refine ⟨h1, h2, h3, by omega, fun B hB hm => heap_push_lt hw hB, by simp, fun j hj => ?_, fun j hj he => ?_, fun B hB hm => ?_⟩
    · rw [hgen]; split
      · rename_i h; subst h; omega
      · omega
    · rw [hgen] at he
      by_cases hjk : j = k
      · subst hjk; rw [if_pos rfl] at he; omega
      · refine ⟨hne j hjk, hesz j, fun a T' fz hc => ?_⟩
        rw [heap_push_lt hw (hI.lt j hj).1] at hc
        exact ⟨a, T', fz, hc, rfl⟩
    · obtain ⟨j, o, hj, hm', rfl⟩ := hm
      by_cases hjk : j = k
      · subst hjk; rw [hat] at hB; omega
      · rw [List.getElem?_set, if_neg (Ne.symm hjk)] at hj
        exact ⟨j, o, hj, hm', (hne j hjk).symm⟩
  refine ⟨t, fun B hB => by have := hI.out B hB; omega, fun i j hi hj he => ?_, fun j hj => ?_, fun j g₁ e₁ o₁ cs₁ hj => ?_, fun j s p hj => ?_, fun j S ps e st pend hj => ?_, fun j es hj => ?_, hI.base.step t⟩
  · rw [List.length_set] at hi hj
    by_cases hik : i = k <;> by_cases hjk : j = k
    · omega
    · subst hik; rw [hat, hne j hjk] at he; have := (hI.lt j hj).1; omega
    · subst hjk; rw [hat, hne i hik] at he; have := (hI.lt i hi).1; omega
    · rw [hne i hik, hne j hjk] at he; exact hI.inj i j hi hj he
  · rw [List.length_set] at hj
    by_cases hjk : j = k
    · subst hjk; rw [hat]; exact ⟨by omega, fun h => by have := hI.out _ h; omega⟩
    · rw [hne j hjk]
      have := hI.lt j hj
      exact ⟨by omega, this.2⟩
  · by_cases hjk : j = k
    · subst hjk
      rw [List.getElem?_set, if_pos rfl, if_pos hk2] at hj
      cases hj
      rw [hat]
      exact ⟨arr', T, hthis, hl, fun i hi => (hr i hi).step t⟩
    · rw [List.getElem?_set, if_neg (Ne.symm hjk)] at hj
      obtain ⟨a₁, T₁, h4, h5, h6⟩ := hI.cells j g₁ e₁ o₁ cs₁ hj
      rw [hne j hjk, heap_push_lt hw (hI.lt j (getElem?_lt hj)).1]
      exact ⟨a₁, T₁, h4, h5, fun i hi => (h6 i hi).step t⟩
  · by_cases hjk : j = k
    · subst hjk
      rw [List.getElem?_set, if_pos rfl, if_pos hk2] at hj
      cases hj
    · rw [List.getElem?_set, if_neg (Ne.symm hjk)] at hj
      obtain ⟨ba, h4, h5⟩ := hI.iter j s p hj
      rw [hne j hjk, heap_push_lt hw (hI.lt j (getElem?_lt hj)).1]
      exact ⟨ba, h4, h5⟩
  · by_cases hjk : j = k
    · subst hjk
      rw [List.getElem?_set, if_pos rfl, if_pos hk2] at hj
      cases hj
    · rw [List.getElem?_set, if_neg (Ne.symm hjk)] at hj
      rw [hne j hjk]
      exact (hI.loop j _ _ _ _ _ hj).mono (fun h => h.step t) (heap_push_lt hw (hI.lt j (getElem?_lt hj)).1)
  · by_cases hjk : j = k
    · subst hjk
      rw [List.getElem?_set, if_pos rfl, if_pos hk2] at hj
      cases hj
    · rw [List.getElem?_set, if_neg (Ne.symm hjk)] at hj
      rw [hne j hjk]
      exact (hI.map j _ hj).mono (fun h => h.step t) (heap_push_lt hw (hI.lt j (getElem?_lt hj)).1)

/-- An iterator goes on. -/
theorem set_iter (hI : HInv P Out ρ H w) {k : Nat} {s : List UInt8} {pos pos' : Nat} {ba : ByteArray} (hk : H[k]? = some (.iter s pos)) (hba : ba.data.toList = s)
    (harr : w.heap[ρ k]? = some (.stringIter ba pos))
    (h1 : w'.os = w.os) (h2 : w'.tape = w.tape) (h3 : w'.output = w.output) (hw : w'.heap = w.heap.set! (ρ k) (.stringIter ba pos')) :
    Tr ρ H w ρ (H.set k (.iter s pos')) w' ∧ HInv P Out ρ (H.set k (.iter s pos')) w' := by
  have hk2 := getElem?_lt hk
  have hB := (hI.lt k hk2).1
  have hother : ∀ B, B ≠ ρ k → w'.heap[B]? = w.heap[B]? := by
    intro B hne
    rw [hw, Array.set!_eq_setIfInBounds, Array.getElem?_setIfInBounds, if_neg (Ne.symm hne)]
  have hthis : w'.heap[ρ k]? = some (.stringIter ba pos') := by
    rw [hw, Array.set!_eq_setIfInBounds, Array.getElem?_setIfInBounds, if_pos rfl, if_pos hB]
  have hsize : w'.heap.size = w.heap.size := by rw [hw]; simp
  have hgen : ∀ j, genOf (H.set k (.iter s pos')) j = genOf H j := by
    intro j
    by_cases h : j = k
    · subst h; simp only [genOf,List.getElem?_set_self hk2,hk]; simp [HObj.gen]
    · simp [genOf, List.getElem?_set_ne (Ne.symm h)]
  have hesz : ∀ j, eszOf (H.set k (.iter s pos')) j = eszOf H j := by
    intro j
    by_cases h : j = k
    · subst h; simp only [eszOf,List.getElem?_set_self hk2,hk]; simp [HObj.esz]
    · simp [eszOf, List.getElem?_set_ne (Ne.symm h)]
  have t : Tr ρ H w ρ (H.set k (.iter s pos')) w' := by
    refine ⟨h1, h2, h3, by omega, fun B hB hm => ?_, by simp, fun j hj => ?_, fun j hj _ => ?_, fun B hB hm => ?_⟩
    · exact hother B (fun e => hm ⟨k, _, hk, rfl, e.symm⟩)
    · rw [hgen]; exact Nat.le_refl _
    · refine ⟨rfl, hesz j, fun a T' fz hc => ?_⟩
      by_cases hjk : ρ j = ρ k
      · rw [hjk, hthis] at hc
        cases hc
      · rw [hother _ hjk] at hc
        exact ⟨a, T', fz, hc, rfl⟩
    · obtain ⟨j, o, hj, hm', rfl⟩ := hm
      by_cases hjk : j = k
      · subst hjk; exact ⟨j, _, hk, rfl, rfl⟩
      · rw [List.getElem?_set, if_neg (Ne.symm hjk)] at hj
        exact ⟨j, o, hj, hm', rfl⟩
  refine ⟨t, fun B hB => by have := hI.out B hB; omega, fun i j hi hj => hI.inj i j (by simpa using hi) (by simpa using hj), fun j hj => ?_, fun j g₁ e₁ o₁ cs₁ hj => ?_, fun j s p hj => ?_, fun j S ps e st pend hj => ?_, fun j es hj => ?_, hI.base.step t⟩
  · have := hI.lt j (by simpa using hj)
    exact ⟨by omega, this.2⟩
  · by_cases hjk : j = k
    · subst hjk
      rw [List.getElem?_set, if_pos rfl, if_pos hk2] at hj
      cases hj
    · rw [List.getElem?_set, if_neg (Ne.symm hjk)] at hj
      obtain ⟨a₁, T₁, h4, h5, h6⟩ := hI.cells j g₁ e₁ o₁ cs₁ hj
      have hne : ρ j ≠ ρ k := fun e => hjk (hI.inj j k (getElem?_lt hj) hk2 e)
      exact ⟨a₁, T₁, by rw [hother _ hne]; exact h4, h5, fun i hi => (h6 i hi).step t⟩
  · by_cases hjk : j = k
    · subst hjk
      rw [List.getElem?_set, if_pos rfl, if_pos hk2] at hj
      cases hj
      exact ⟨ba, hba, hthis⟩
    · rw [List.getElem?_set, if_neg (Ne.symm hjk)] at hj
      obtain ⟨ba, h4, h5⟩ := hI.iter j _ p hj
      have hne : ρ j ≠ ρ k := fun e => hjk (hI.inj j k (getElem?_lt hj) hk2 e)
      exact ⟨ba, h4, by rw [hother _ hne]; exact h5⟩
  · by_cases hjk : j = k
    · subst hjk
      rw [List.getElem?_set, if_pos rfl, if_pos hk2] at hj
      cases hj
    · rw [List.getElem?_set, if_neg (Ne.symm hjk)] at hj
      have hne : ρ j ≠ ρ k := fun e => hjk (hI.inj j k (getElem?_lt hj) hk2 e)
      exact (hI.loop j _ _ _ _ _ hj).mono (fun h => h.step t) (hother _ hne)
  · by_cases hjk : j = k
    · subst hjk
      rw [List.getElem?_set, if_pos rfl, if_pos hk2] at hj
      cases hj
    · rw [List.getElem?_set, if_neg (Ne.symm hjk)] at hj
      have hne : ρ j ≠ ρ k := fun e => hjk (hI.inj j k (getElem?_lt hj) hk2 e)
      exact (hI.map j _ hj).mono (fun h => h.step t) (hother _ hne)

/-- A loop's record is laid. -/
theorem HInv.push_loop (hI : HInv P Out ρ H w) {S : Nat → List Nat → Code → Code → Prop} {ps : List Nat} {e : Nat → V} {st : LoopState} {pend : Option Code} {fn : FuncId} {tmps : Array Value} {ca cb : Code} {ds : Nat}
    (h1 : w'.os = w.os) (h2 : w'.tape = w.tape) (h3 : w'.output = w.output)
    (hw : w'.heap = w.heap.push (.loop { state := st, pending := pend, fn := fn, tmps := tmps, params := ps.toArray, assign := ca, body := cb, defers := ds })) (hS : S tmps.size ps ca cb)
    (hr : ∀ t, Rel ρ H (BadIn Out ρ H) w (e t) (tmps.getD t undef)) :
    HInv P Out (ext ρ H.length w.heap.size) (H ++ [.loop S ps e st pend]) w' := by
  have t := Tr.push hI (.loop S ps e st pend) _ h1 h2 h3 hw
  have hsz : w'.heap.size = w.heap.size + 1 := by rw [hw]; simp
  have hlen : (H ++ [HObj.loop S ps e st pend]).length = H.length + 1 := by simp
  refine ⟨fun B hB => by have := hI.out B hB; omega, fun i j hi hj he => ?_, fun k hk => ?_, fun k g e' o' cs' hk => ?_, fun k s p hk => ?_, fun k S' ps' e' st' pend' hk => ?_, fun k es hk => ?_, hI.base.step t⟩
  · rw [hlen] at hi hj
    rcases Nat.lt_or_ge i H.length with hi' | hi' <;> rcases Nat.lt_or_ge j H.length with hj' | hj'
    · rw [ext_lt hi', ext_lt hj'] at he; exact hI.inj i j hi' hj' he
    · have : j = H.length := by omega
      subst this
      rw [ext_lt hi', ext_at] at he
      have := (hI.lt i hi').1; omega
    · have : i = H.length := by omega
      subst this
      rw [ext_lt hj', ext_at] at he
      have := (hI.lt j hj').1; omega
    · omega
  · rw [hlen] at hk
    rcases Nat.lt_or_ge k H.length with hk' | hk'
    · rw [ext_lt hk']
      have := hI.lt k hk'
      exact ⟨by omega, this.2⟩
    · have : k = H.length := by omega
      subst this
      rw [ext_at]
      exact ⟨by omega, fun h => by have := hI.out _ h; omega⟩
  · have hk2 := getElem?_lt hk
    rw [hlen] at hk2
    rcases Nat.lt_or_ge k H.length with hk' | hk'
    · rw [List.getElem?_append_left hk'] at hk
      obtain ⟨arr', T', h4, h5, h6⟩ := hI.cells k g e' o' cs' hk
      rw [ext_lt hk', heap_push_lt hw (hI.lt k hk').1]
      exact ⟨arr', T', h4, h5, fun i hi => (h6 i hi).step t⟩
    · have : k = H.length := by omega
      subst this
      rw [List.getElem?_append_right (by omega)] at hk
      simp at hk
  · have hk2 := getElem?_lt hk
    rw [hlen] at hk2
    rcases Nat.lt_or_ge k H.length with hk' | hk'
    · rw [List.getElem?_append_left hk'] at hk
      obtain ⟨ba', h4, h5⟩ := hI.iter k s p hk
      rw [ext_lt hk', heap_push_lt hw (hI.lt k hk').1]
      exact ⟨ba', h4, h5⟩
    · have : k = H.length := by omega
      subst this
      rw [List.getElem?_append_right (by omega)] at hk
      simp at hk
  · have hk2 := getElem?_lt hk
    rw [hlen] at hk2
    rcases Nat.lt_or_ge k H.length with hk' | hk'
    · rw [List.getElem?_append_left hk'] at hk
      rw [ext_lt hk']
      exact (hI.loop k _ _ _ _ _ hk).mono (fun h => h.step t) (heap_push_lt hw (hI.lt k hk').1)
    · have : k = H.length := by omega
      subst this
      rw [List.getElem?_append_right (by omega)] at hk
      simp at hk
      obtain ⟨rfl, rfl, rfl, rfl, rfl⟩ := hk
      rw [ext_at]
      exact ⟨fn, tmps, ca, cb, ds, hS, fun i => (hr i).step t, by rw [hw]; simp⟩
  · have hk2 := getElem?_lt hk
    rw [hlen] at hk2
    rcases Nat.lt_or_ge k H.length with hk' | hk'
    · rw [List.getElem?_append_left hk'] at hk
      rw [ext_lt hk']
      exact (hI.map k _ hk).mono (fun h => h.step t) (heap_push_lt hw (hI.lt k hk').1)
    · have : k = H.length := by omega
      subst this
      rw [List.getElem?_append_right (by omega)] at hk
      simp at hk

/-- A loop's record turns. -/
theorem set_loop (hI : HInv P Out ρ H w) {k : Nat} {S : Nat → List Nat → Code → Code → Prop} {ps : List Nat} {e : Nat → V} {st st' : LoopState} {pend pend' : Option Code} {L : Loop}
    (hk : H[k]? = some (.loop S ps e st pend)) (harr : w.heap[ρ k]? = some (.loop L))
    (h1 : w'.os = w.os) (h2 : w'.tape = w.tape) (h3 : w'.output = w.output) (hw : w'.heap = w.heap.set! (ρ k) (.loop { L with state := st', pending := pend' })) :
    Tr ρ H w ρ (H.set k (.loop S ps e st' pend')) w' ∧ HInv P Out ρ (H.set k (.loop S ps e st' pend')) w' := by
  have hk2 := getElem?_lt hk
  have hB := (hI.lt k hk2).1
  have hother : ∀ B, B ≠ ρ k → w'.heap[B]? = w.heap[B]? := by
    intro B hne
    rw [hw, Array.set!_eq_setIfInBounds, Array.getElem?_setIfInBounds, if_neg (Ne.symm hne)]
  have hthis : w'.heap[ρ k]? = some (.loop { L with state := st', pending := pend' }) := by
    rw [hw, Array.set!_eq_setIfInBounds, Array.getElem?_setIfInBounds, if_pos rfl, if_pos hB]
  have hsize : w'.heap.size = w.heap.size := by rw [hw]; simp
  have hgen : ∀ j, genOf (H.set k (.loop S ps e st' pend')) j = genOf H j := by
    intro j
    by_cases h : j = k
    · subst h; simp only [genOf,List.getElem?_set_self hk2,hk]; simp [HObj.gen]
    · simp [genOf, List.getElem?_set_ne (Ne.symm h)]
  have hesz : ∀ j, eszOf (H.set k (.loop S ps e st' pend')) j = eszOf H j := by
    intro j
    by_cases h : j = k
    · subst h; simp only [eszOf,List.getElem?_set_self hk2,hk]; simp [HObj.esz]
    · simp [eszOf, List.getElem?_set_ne (Ne.symm h)]
  have t : Tr ρ H w ρ (H.set k (.loop S ps e st' pend')) w' := by
    refine ⟨h1, h2, h3, by omega, fun B hB hm => ?_, by simp, fun j hj => ?_, fun j hj _ => ?_, fun B hB hm => ?_⟩
    · exact hother B (fun e => hm ⟨k, _, hk, rfl, e.symm⟩)
    · rw [hgen]; exact Nat.le_refl _
    · refine ⟨rfl, hesz j, fun a T' fz hc => ?_⟩
      by_cases hjk : ρ j = ρ k
      · rw [hjk, hthis] at hc
        cases hc
      · rw [hother _ hjk] at hc
        exact ⟨a, T', fz, hc, rfl⟩
    · obtain ⟨j, o, hj, hm', rfl⟩ := hm
      by_cases hjk : j = k
      · subst hjk; exact ⟨j, _, hk, rfl, rfl⟩
      · rw [List.getElem?_set, if_neg (Ne.symm hjk)] at hj
        exact ⟨j, o, hj, hm', rfl⟩
  refine ⟨t, fun B hB => by have := hI.out B hB; omega, fun i j hi hj => hI.inj i j (by simpa using hi) (by simpa using hj), fun j hj => ?_, fun j g₁ e₁ o₁ cs₁ hj => ?_, fun j s p hj => ?_, fun j S' ps' e' st₁ pend₁ hj => ?_, fun j es hj => ?_, hI.base.step t⟩
  · have := hI.lt j (by simpa using hj)
    exact ⟨by omega, this.2⟩
  · by_cases hjk : j = k
    · subst hjk
      rw [List.getElem?_set, if_pos rfl, if_pos hk2] at hj
      cases hj
    · rw [List.getElem?_set, if_neg (Ne.symm hjk)] at hj
      obtain ⟨a₁, T₁, h4, h5, h6⟩ := hI.cells j g₁ e₁ o₁ cs₁ hj
      have hne : ρ j ≠ ρ k := fun e => hjk (hI.inj j k (getElem?_lt hj) hk2 e)
      exact ⟨a₁, T₁, by rw [hother _ hne]; exact h4, h5, fun i hi => (h6 i hi).step t⟩
  · by_cases hjk : j = k
    · subst hjk
      rw [List.getElem?_set, if_pos rfl, if_pos hk2] at hj
      cases hj
    · rw [List.getElem?_set, if_neg (Ne.symm hjk)] at hj
      obtain ⟨ba, h4, h5⟩ := hI.iter j _ p hj
      have hne : ρ j ≠ ρ k := fun e => hjk (hI.inj j k (getElem?_lt hj) hk2 e)
      exact ⟨ba, h4, by rw [hother _ hne]; exact h5⟩
  · by_cases hjk : j = k
    · subst hjk
      rw [List.getElem?_set, if_pos rfl, if_pos hk2] at hj
      cases hj
      obtain ⟨fn, tmps, a, b, ds, k1, k2, k3⟩ := hI.loop j _ _ _ _ _ hk
      rw [harr] at k3
      cases k3
      exact ⟨fn, tmps, a, b, ds, k1, fun i => (k2 i).step t, hthis⟩
    · rw [List.getElem?_set, if_neg (Ne.symm hjk)] at hj
      have hne : ρ j ≠ ρ k := fun e => hjk (hI.inj j k (getElem?_lt hj) hk2 e)
      exact (hI.loop j _ _ _ _ _ hj).mono (fun h => h.step t) (hother _ hne)
  · by_cases hjk : j = k
    · subst hjk
      rw [List.getElem?_set, if_pos rfl, if_pos hk2] at hj
      cases hj
    · rw [List.getElem?_set, if_neg (Ne.symm hjk)] at hj
      have hne : ρ j ≠ ρ k := fun e => hjk (hI.inj j k (getElem?_lt hj) hk2 e)
      exact (hI.map j _ hj).mono (fun h => h.step t) (hother _ hne)

/-- A new map. -/
theorem HInv.push_map (hI : HInv P Out ρ H w) {clock : Nat}
    (h1 : w'.os = w.os) (h2 : w'.tape = w.tape) (h3 : w'.output = w.output) (hw : w'.heap = w.heap.push (.map #[] clock)) :
    HInv P Out (ext ρ H.length w.heap.size) (H ++ [.map []]) w' := by
  have t := Tr.push hI (.map []) _ h1 h2 h3 hw
  have hsz : w'.heap.size = w.heap.size + 1 := by rw [hw]; simp
  have hnew : w'.heap[w.heap.size]? = some (.map #[] clock) := by rw [hw]; simp
  have hlen : (H ++ [HObj.map []]).length = H.length + 1 := by simp
  refine ⟨fun B hB => by have := hI.out B hB; omega, fun i j hi hj he => ?_, fun k hk => ?_, fun k g e' o' cs' hk => ?_, fun k s p hk => ?_, fun k S ps e st pend hk => ?_, fun k es hk => ?_, hI.base.step t⟩
  · rw [hlen] at hi hj
    rcases Nat.lt_or_ge i H.length with hi' | hi' <;> rcases Nat.lt_or_ge j H.length with hj' | hj'
    · rw [ext_lt hi', ext_lt hj'] at he; exact hI.inj i j hi' hj' he
    · have : j = H.length := by omega
      subst this
      rw [ext_lt hi', ext_at] at he
      have := (hI.lt i hi').1; omega
    · have : i = H.length := by omega
      subst this
      rw [ext_lt hj', ext_at] at he
      have := (hI.lt j hj').1; omega
    · omega
  · rw [hlen] at hk
    rcases Nat.lt_or_ge k H.length with hk' | hk'
    · rw [ext_lt hk']
      have := hI.lt k hk'
      exact ⟨by omega, this.2⟩
    · have : k = H.length := by omega
      subst this
      rw [ext_at]
      exact ⟨by omega, fun h => by have := hI.out _ h; omega⟩
  · have hk2 := getElem?_lt hk
    rw [hlen] at hk2
    rcases Nat.lt_or_ge k H.length with hk' | hk'
    · rw [List.getElem?_append_left hk'] at hk
      obtain ⟨arr', T', h4, h5, h6⟩ := hI.cells k g e' o' cs' hk
      rw [ext_lt hk', heap_push_lt hw (hI.lt k hk').1]
      exact ⟨arr', T', h4, h5, fun i hi => (h6 i hi).step t⟩
    · have : k = H.length := by omega
      subst this
      rw [List.getElem?_append_right (by omega)] at hk
      simp at hk
  · have hk2 := getElem?_lt hk
    rw [hlen] at hk2
    rcases Nat.lt_or_ge k H.length with hk' | hk'
    · rw [List.getElem?_append_left hk'] at hk
      obtain ⟨ba', h4, h5⟩ := hI.iter k s p hk
      rw [ext_lt hk', heap_push_lt hw (hI.lt k hk').1]
      exact ⟨ba', h4, h5⟩
    · have : k = H.length := by omega
      subst this
      rw [List.getElem?_append_right (by omega)] at hk
      simp at hk
  · have hk2 := getElem?_lt hk
    rw [hlen] at hk2
    rcases Nat.lt_or_ge k H.length with hk' | hk'
    · rw [List.getElem?_append_left hk'] at hk
      rw [ext_lt hk']
      exact (hI.loop k _ _ _ _ _ hk).mono (fun h => h.step t) (heap_push_lt hw (hI.lt k hk').1)
    · have : k = H.length := by omega
      subst this
      rw [List.getElem?_append_right (by omega)] at hk
      simp at hk
  · have hk2 := getElem?_lt hk
    rw [hlen] at hk2
    rcases Nat.lt_or_ge k H.length with hk' | hk'
    · rw [List.getElem?_append_left hk'] at hk
      rw [ext_lt hk']
      exact (hI.map k _ hk).mono (fun h => h.step t) (heap_push_lt hw (hI.lt k hk').1)
    · have : k = H.length := by omega
      subst this
      rw [List.getElem?_append_right (by omega)] at hk
      simp at hk
      subst hk
      rw [ext_at]
      exact ⟨#[], clock, hnew, rfl, fun i h => by simp at h⟩

/-- A map turns. -/
theorem set_map (hI : HInv P Out ρ H w) {k : Nat} {es es' : List (V × V)} {arr arr' : Array MapEntry} {clock clock' : Nat} (hk : H[k]? = some (.map es))
    (harr : w.heap[ρ k]? = some (.map arr clock))
    (h1 : w'.os = w.os) (h2 : w'.tape = w.tape) (h3 : w'.output = w.output) (hw : w'.heap = w.heap.set! (ρ k) (.map arr' clock')) (hs : arr'.toList.length = es'.length)
    (hr : ∀ i (h : i < es'.length) (h' : i < arr'.toList.length), Rel ρ H (BadIn Out ρ H) w es'[i].1 arr'.toList[i].key ∧ Rel ρ H (BadIn Out ρ H) w es'[i].2 arr'.toList[i].val) :
    Tr ρ H w ρ (H.set k (.map es')) w' ∧ HInv P Out ρ (H.set k (.map es')) w' := by
  have hk2 := getElem?_lt hk
  have hB := (hI.lt k hk2).1
  have hother : ∀ B, B ≠ ρ k → w'.heap[B]? = w.heap[B]? := by
    intro B hne
    rw [hw, Array.set!_eq_setIfInBounds, Array.getElem?_setIfInBounds, if_neg (Ne.symm hne)]
  have hthis : w'.heap[ρ k]? = some (.map arr' clock') := by
    rw [hw, Array.set!_eq_setIfInBounds, Array.getElem?_setIfInBounds, if_pos rfl, if_pos hB]
  have hsize : w'.heap.size = w.heap.size := by rw [hw]; simp
  have hgen : ∀ j, genOf (H.set k (.map es')) j = genOf H j := by
    intro j
    by_cases h : j = k
    · subst h; simp only [genOf,List.getElem?_set_self hk2,hk]; simp [HObj.gen]
    · simp [genOf, List.getElem?_set_ne (Ne.symm h)]
  have hesz : ∀ j, eszOf (H.set k (.map es')) j = eszOf H j := by
    intro j
    by_cases h : j = k
    · subst h; simp only [eszOf,List.getElem?_set_self hk2,hk]; simp [HObj.esz]
    · simp [eszOf, List.getElem?_set_ne (Ne.symm h)]
  have t : Tr ρ H w ρ (H.set k (.map es')) w' := by
    refine ⟨h1, h2, h3, by omega, fun B hB hm => ?_, by simp, fun j hj => ?_, fun j hj _ => ?_, fun B hB hm => ?_⟩
    · exact hother B (fun e => hm ⟨k, _, hk, rfl, e.symm⟩)
    · rw [hgen]; exact Nat.le_refl _
    · refine ⟨rfl, hesz j, fun a T' fz hc => ?_⟩
      by_cases hjk : ρ j = ρ k
      · rw [hjk, hthis] at hc
        cases hc
      · rw [hother _ hjk] at hc
        exact ⟨a, T', fz, hc, rfl⟩
    · obtain ⟨j, o, hj, hm', rfl⟩ := hm
      by_cases hjk : j = k
      · subst hjk; exact ⟨j, _, hk, rfl, rfl⟩
      · rw [List.getElem?_set, if_neg (Ne.symm hjk)] at hj
        exact ⟨j, o, hj, hm', rfl⟩
  refine ⟨t, fun B hB => by have := hI.out B hB; omega, fun i j hi hj => hI.inj i j (by simpa using hi) (by simpa using hj), fun j hj => ?_, fun j g₁ e₁ o₁ cs₁ hj => ?_, fun j s p hj => ?_, fun j S ps e st pend hj => ?_, fun j es₁ hj => ?_, hI.base.step t⟩
  · have := hI.lt j (by simpa using hj)
    exact ⟨by omega, this.2⟩
  · by_cases hjk : j = k
    · subst hjk
      rw [List.getElem?_set, if_pos rfl, if_pos hk2] at hj
      cases hj
    · rw [List.getElem?_set, if_neg (Ne.symm hjk)] at hj
      obtain ⟨a₁, T₁, h4, h5, h6⟩ := hI.cells j g₁ e₁ o₁ cs₁ hj
      have hne : ρ j ≠ ρ k := fun e => hjk (hI.inj j k (getElem?_lt hj) hk2 e)
      exact ⟨a₁, T₁, by rw [hother _ hne]; exact h4, h5, fun i hi => (h6 i hi).step t⟩
  · by_cases hjk : j = k
    · subst hjk
      rw [List.getElem?_set, if_pos rfl, if_pos hk2] at hj
      cases hj
    · rw [List.getElem?_set, if_neg (Ne.symm hjk)] at hj
      obtain ⟨ba, h4, h5⟩ := hI.iter j s p hj
      have hne : ρ j ≠ ρ k := fun e => hjk (hI.inj j k (getElem?_lt hj) hk2 e)
      exact ⟨ba, h4, by rw [hother _ hne]; exact h5⟩
  · by_cases hjk : j = k
    · subst hjk
      rw [List.getElem?_set, if_pos rfl, if_pos hk2] at hj
      cases hj
    · rw [List.getElem?_set, if_neg (Ne.symm hjk)] at hj
      have hne : ρ j ≠ ρ k := fun e => hjk (hI.inj j k (getElem?_lt hj) hk2 e)
      exact (hI.loop j _ _ _ _ _ hj).mono (fun h => h.step t) (hother _ hne)
  · by_cases hjk : j = k
    · subst hjk
      rw [List.getElem?_set, if_pos rfl, if_pos hk2] at hj
      cases hj
      exact ⟨arr', clock', hthis, hs, fun i h h' => ⟨((hr i h h').1).step t, ((hr i h h').2).step t⟩⟩
    · rw [List.getElem?_set, if_neg (Ne.symm hjk)] at hj
      have hne : ρ j ≠ ρ k := fun e => hjk (hI.inj j k (getElem?_lt hj) hk2 e)
      exact (hI.map j _ hj).mono (fun h => h.step t) (hother _ hne)

end
end Fe
namespace Fe
open Go Go.RowKit

section
variable {P : Program} {Out : Nat → Prop} {ρ : Nat → Nat} {H : Heap} {w : World} {e : Env} {a : Act} {o : Oper}

theorem does_mov {x : Operand} {cx : X} (ho : o.op = .move x ∨ o.op = .assign x) (hx : stripX P x = some cx) (hI : HInv P Out ρ H w) (hE : ERel Out ρ H w e a) :
    Does P a o Out ρ H w (cx.ev e) H := by
  refine Does.pure hI (c := a.eval x) ?_ (stripX_rel hI hE hx)
  rcases ho with ho | ho <;> simp [execOp, ho, pure]

theorem does_pick {c x y : Operand} {cc cx cy : X} (ho : o.op = .pick c x y) (hc : stripX P c = some cc) (hx : stripX P x = some cx) (hy : stripX P y = some cy)
    (hI : HInv P Out ρ H w) (hE : ERel Out ρ H w e a) {t : Bool} (ht : cc.ev e = .bool t) :
    Does P a o Out ρ H w (if t = true then cx.ev e else cy.ev e) H := by
  have hb := stripX_rel hI hE hc
  rw [ht] at hb
  have hb := hb.bool_inv
  refine Does.pure hI (c := if t = true then a.eval x else a.eval y) ?_ ?_
  · simp [execOp, ho, asBool, hb]
  · split
    · exact stripX_rel hI hE hx
    · exact stripX_rel hI hE hy

theorem boxable_cases {v : V} (h : v.boxable = true) : v.isCell = true ∨ ∃ cs, v = .agg cs := by
  cases v <;> simp_all [V.boxable]

theorem run_newVar (t : TypeId) (v : Value) : (newVar t v).run P w = .ok ⟨w.heap.size, 0, none⟩ { w with heap := w.heap.push (.cells v.cells t) } := by
  simp [newVar, newRow, newObj, Sem.run]

theorem does_newVar {t : TypeId} {c : Value} {v : V} (hr : (execOp a.eval o).run P w = (Sem.run P (do pure (Next.value (← (do pure (Value.pointer (some (← newVar t c))))))) w))
    (hv : v.boxable = true) (hc : Rel ρ H (BadIn Out ρ H) w v c) (hI : HInv P Out ρ H w) :
    Does P a o Out ρ H w (.cell H.length 0 0) (H ++ [.cells 0 0 true v.cells]) := by
  obtain ⟨h1, h2⟩ := hc.cells (boxable_cases hv)
  refine ⟨ext ρ H.length w.heap.size, { w with heap := w.heap.push (.cells c.cells t) }, Tr.push hI _ _ rfl rfl rfl rfl,
    HInv.push_cells hI rfl rfl rfl rfl (by omega) h2, .inl ⟨.pointer (some ⟨w.heap.size, 0, none⟩), ?_, ?_⟩⟩
  · rw [hr]; simp [run_newVar]
  · exact .cell _ _ _ _ (by simp) (Nat.zero_le _) (fun _ => ext_at.symm)

theorem does_box {t : TypeId} {x : Operand} {cx : X} (ho : o.op = .box t x) (hx : stripX P x = some cx) (hI : HInv P Out ρ H w) (hE : ERel Out ρ H w e a)
    (hb : (cx.ev e).boxable = true) : Does P a o Out ρ H w (.cell H.length 0 0) (H ++ [.cells 0 0 true (cx.ev e).cells]) :=
  does_newVar (t := t) (c := a.eval x) (by simp [execOp, ho, Instr.box]) hb (stripX_rel hI hE hx) hI

theorem run_info {t : TypeId} {i : TypeInfo} (h : P.info? t = some i) : (typeInfo t).run P w = .ok i w := by
  simp [typeInfo, program, Sem.run, h]
theorem run_und {t : TypeId} {d : TypeDesc} (h : P.underlying t = some d) : (underlying t).run P w = .ok d w := by
  simp [underlying, program, Sem.run, h]
theorem run_size {t : TypeId} {i : TypeInfo} (h : P.info? t = some i) : (Go.sizeOf t).run P w = .ok i.size w := by
  simp [Go.sizeOf, run_info h]
theorem run_zero {t : TypeId} {i : TypeInfo} {z : Value} (h : P.info? t = some i) (hz : i.zero = some z) : (zeroValue t).run P w = .ok z w := by
  simp [zeroValue, run_info h, hz]
theorem run_isAgg {t : TypeId} {d : TypeDesc} (h : P.underlying t = some d) : (isAgg t).run P w = .ok (isAggD d) w := by
  simp only [isAgg,Sem.run_bind,run_und h,Result.andThen_ok]
  cases d <;> rfl

theorem does_alloc {t : TypeId} {i : TypeInfo} {z : Value} {v : V} (ho : o.op = .alloc t) (hi : P.info? t = some i) (hz : i.zero = some z) (hv : constV 4 z = some v)
    (hI : HInv P Out ρ H w) (hb : v.boxable = true) : Does P a o Out ρ H w (.cell H.length 0 0) (H ++ [.cells 0 0 true v.cells]) :=
  does_newVar (t := t) (c := z) (by simp [execOp, ho, Instr.alloc, run_zero hi hz]) hb (constV_rel hv) hI

/-! ### Loads -/
theorem run_loadCellsFrom (B o : Nat) : ∀ (n i : Nat) (acc : Array Value) (f : Nat → Value), (∀ j, j < n → w.cell? ⟨B, o + (i + j), none⟩ = some (f j)) →
    (loadCellsFrom ⟨B, o, none⟩ i n acc).run P w = .ok (acc ++ (Array.range n).map f) w
  | 0, i, acc, f, h => by simp [loadCellsFrom, pure]
  | n + 1, i, acc, f, h => by
    have h0 := h 0 (by omega)
    have hadd : (Addr.add ⟨B, o, none⟩ i) = ⟨B, o + i, none⟩ := by unfold Addr.add; split <;> simp_all
    simp only [loadCellsFrom,load,Sem.run_bind,Sem.run,hadd]
    simp only [Nat.add_zero] at h0
    rw [h0]
    simp only [Result.andThen_ok]
    rw [run_loadCellsFrom B o n (i + 1) (acc.push (f 0)) (fun j => f (j + 1)) (fun j hj => by have := h (j + 1) (by omega); rw [show o + (i + 1 + j) = o + (i + (j + 1)) by omega]; exact this)]
    congr 1
    apply Array.ext'
    simp [Array.toList_range, List.range_succ_eq_map, List.map_map, Function.comp_def]

theorem run_loadVar {t : TypeId} {d : TypeDesc} {i : TypeInfo} (hd : P.underlying t = some d) (hi : P.info? t = some i) (B o : Nat) (f : Nat → Value)
    (h : ∀ j, j < (if isAggD d = true then i.size else 1) → w.cell? ⟨B, o + j, none⟩ = some (f j)) :
    (loadVar t ⟨B, o, none⟩).run P w = .ok (if isAggD d = true then .agg ((Array.range i.size).map f) else f 0) w := by
  simp only [loadVar,Sem.run_bind,run_isAgg hd,Result.andThen_ok]
  cases hagg : isAggD d with
  | true =>
    rw [hagg] at h
    simp only [if_true] at h ⊢
    simp only [Sem.run_bind,run_size hi,Result.andThen_ok,loadCells]
    rw [run_loadCellsFrom B o i.size 0 #[] f (fun j hj => by simpa using h j hj)]
    simp [pure]
  | false =>
    rw [hagg] at h
    simp only [Bool.false_eq_true,if_false] at h ⊢
    have h0 := h 0 (by omega)
    simp only [Nat.add_zero] at h0
    simp [load, Sem.run, h0]

/-- The cells behind a pointer. -/
theorem ptr_cells {v : V} {c : Value} {lim sz : Nat} {agg : Bool} {r : V} (hI : HInv P Out ρ H w) (hc : Rel ρ H (BadIn Out ρ H) w v c) (h : loadV lim agg sz H v = some r) :
    ∃ (B off : Nat) (f : Nat → Value), c = .pointer (some ⟨B, off, none⟩) ∧ (∀ j, j < (if agg = true then sz else 1) → w.cell? ⟨B, off + j, none⟩ = some (f j)) ∧
      (if agg = true then ∃ l, r = .agg l ∧ l.length = sz ∧ ∀ j (hj : j < l.length), Rel ρ H (BadIn Out ρ H) w l[j] (f j) else Rel ρ H (BadIn Out ρ H) w r (f 0)) := by
  have key : ∀ (cs : List V) (B o0 off : Nat) (f : Nat → Value), (∀ i, i < cs.length → w.cell? ⟨B, o0 + i, none⟩ = some (f i)) → (∀ i (h : i < cs.length), Rel ρ H (BadIn Out ρ H) w cs[i] (f i)) →
      (if agg = true then (if off + sz ≤ cs.length then some (V.agg ((cs.drop off).take sz)) else none) else cs[off]?) = some r →
      (∀ j, j < (if agg = true then sz else 1) → w.cell? ⟨B, o0 + off + j, none⟩ = some (f (off + j))) ∧
      (if agg = true then ∃ l, r = .agg l ∧ l.length = sz ∧ ∀ j (hj : j < l.length), Rel ρ H (BadIn Out ρ H) w l[j] (f (off + j)) else Rel ρ H (BadIn Out ρ H) w r (f (off + 0))) := by
    intro cs B o0 off f h1 h2 h3
    cases agg with
    | true =>
      simp only [if_true] at h3 ⊢
      split at h3
      · rename_i hle
        cases h3
        have hlen : ((cs.drop off).take sz).length = sz := by simp; omega
        refine ⟨fun j hj => by rw [Nat.add_assoc]; exact h1 _ (by omega), _, rfl, hlen, fun j hj => ?_⟩
        have := h2 (off + j) (by omega)
        simpa using this
      · cases h3
    | false =>
      simp only [Bool.false_eq_true,if_false] at h3 ⊢
      have hlt := getElem?_lt h3
      refine ⟨fun j hj => ?_, ?_⟩
      · have : j = 0 := by omega
        subst this; exact h1 _ hlt
      · have := h2 off hlt
        rw [List.getElem?_eq_getElem hlt] at h3
        cases h3
        simpa using this
  unfold loadV at h
  cases hc with
  | cell k g off B hk hg hB =>
    simp only at h
    split at h
    · split at h
      · rename_i g' esz own cs hget
        split at h
        · rename_i hgg
          subst hgg
          obtain ⟨arr, T, h4, h5, h6⟩ := hI.cells k _ _ _ _ hget
          have hBk : B = ρ k := hB (by simp [genOf, hget, HObj.gen])
          subst hBk
          obtain ⟨k1, k2⟩ := key cs (ρ k) 0 off (fun i => arr.getD i undef) (fun i hi => by
            simp only [World.cell?,h4]
            simp [Array.getD, show i < arr.size by omega]) h6 h
          simp only [Nat.zero_add] at k1
          exact ⟨_, _, _, rfl, k1, k2⟩
        · cases h
      · cases h
    · cases h
  | rptr cs off B o' f hcell hrel hbad =>
    simp only at h
    obtain ⟨k1, k2⟩ := key cs B o' off f hcell hrel h
    exact ⟨B, o' + off, fun j => f (off + j), rfl, k1, k2⟩
  | _ => cases h

theorem does_load {t : TypeId} {d : TypeDesc} {i : TypeInfo} {x : Operand} {cx : X} {lim : Nat} {r : V} (ho : o.op = .load t x) (hd : P.underlying t = some d) (hi : P.info? t = some i)
    (hx : stripX P x = some cx) (hI : HInv P Out ρ H w) (hE : ERel Out ρ H w e a) (hr : loadV lim (isAggD d) i.size H (cx.ev e) = some r) : Does P a o Out ρ H w r H := by
  obtain ⟨B, off, f, h1, h2, h3⟩ := ptr_cells hI (stripX_rel hI hE hx) hr
  refine Does.pure hI (c := if isAggD d = true then .agg ((Array.range i.size).map f) else f 0) ?_ ?_
  · simp [execOp, ho, Instr.loadAt, h1, Instr.sureAddr, run_loadVar hd hi B off f h2]
  · cases hagg : isAggD d with
    | true =>
      rw [hagg] at h3
      simp only [if_true] at h3 ⊢
      obtain ⟨l, rfl, hl, hrel⟩ := h3
      refine .agg _ _ (by simp [hl]) (fun j hj => ?_)
      have : (Array.map f (Array.range i.size)).getD j undef = f j := by simp [Array.getD, show j < i.size by omega]
      rw [this]
      exact hrel j hj
    | false =>
      rw [hagg] at h3
      simpa using h3

end
end Fe
namespace Fe
open Go Go.RowKit

section
variable {P : Program} {Out : Nat → Prop} {ρ : Nat → Nat} {H : Heap} {Bad : Nat → Prop} {w : World} {e : Env} {a : Act} {o : Oper}

def Storable : Value → Prop
  | .agg _ | .tuple _ => False
  | _ => True

theorem Rel.storable {v : V} {c : Value} (h : Rel ρ H Bad w v c) (hv : v.isCell = true) : Storable c := by
  cases h <;> simp_all [V.isCell, Storable]

theorem set_self {α : Type} (arr : Array α) (B : Nat) (x : α) (h : arr[B]? = some x) : arr.set! B x = arr := by
  apply Array.ext_getElem?
  intro i
  rw [Array.set!_eq_setIfInBounds, Array.getElem?_setIfInBounds]
  split
  · rename_i e; subst e
    have hlt : B < arr.size := by
      rcases Nat.lt_or_ge B arr.size with h1 | h1
      · exact h1
      · simp [Array.getElem?_eq_none h1] at h
    rw [if_pos hlt, h]
  · rfl

theorem set_set {α : Type} (arr : Array α) (B : Nat) (x y : α) : (arr.set! B x).set! B y = arr.set! B y := by
  apply Array.ext_getElem?
  intro i
  simp only [Array.set!_eq_setIfInBounds,Array.getElem?_setIfInBounds]
  split
  · simp
  · rfl

theorem run_store {v : Value} (hv : Storable v) {ad : Addr} (hc : (w.cell? ad).isSome = true) (hf : w.frozen? ad = false) :
    (store ad v).run P w = .ok () (w.setCell ad v) := by
  obtain ⟨x, hx⟩ := Option.isSome_iff_exists.1 hc
  cases v <;> simp_all [Storable, store, Sem.run]

theorem run_storeCells {B o : Nat} {T : TypeId} : ∀ (vs : List Value) (i : Nat) (w : World) (arr : Array Value), w.heap[B]? = some (.cells arr T (0, 0)) → (∀ v ∈ vs, Storable v) →
    o + i + vs.length ≤ arr.size → ∃ arr', (storeCells ⟨B, o, none⟩ vs i).run P w = .ok () { w with heap := w.heap.set! B (.cells arr' T (0, 0)) } ∧ arr'.size = arr.size ∧
      ∀ j, arr'.getD j undef = if o + i ≤ j ∧ j < o + i + vs.length then vs.getD (j - (o + i)) undef else arr.getD j undef
  | [], i, w, arr, hw, _, _ => by
    refine ⟨arr, ?_, rfl, fun j => ?_⟩
    · rw [set_self _ _ _ hw]; simp [storeCells]
    · rw [if_neg (by simp)]
  | v :: vs, i, w, arr, hw, hs, hl => by
    have hadd : (Addr.add ⟨B, o, none⟩ i) = ⟨B, o + i, none⟩ := by unfold Addr.add; split <;> simp_all
    simp only [List.length_cons] at hl
    have hB : B < w.heap.size := by
      rcases Nat.lt_or_ge B w.heap.size with h1 | h1
      · exact h1
      · simp [Array.getElem?_eq_none h1] at hw
    have hcell : (w.cell? ⟨B, o + i, none⟩).isSome = true := by
      simp only [World.cell?,hw]
      simp [show o + i < arr.size by omega]
    have hfro : w.frozen? ⟨B, o + i, none⟩ = false := by simp [World.frozen?, hw]
    have hset : w.setCell ⟨B, o + i, none⟩ v = { w with heap := w.heap.set! B (.cells (arr.setIfInBounds (o + i) v) T (0, 0)) } := by
      unfold World.setCell
      congr 1
      apply Array.ext_getElem?
      intro j
      rw [Array.getElem?_modify, Array.set!_eq_setIfInBounds, Array.getElem?_setIfInBounds]
      split
      · rename_i e; simp only at e; subst e; rw [hw]; simp
      · rfl
    have hw1 : (w.setCell ⟨B, o + i, none⟩ v).heap[B]? = some (.cells (arr.setIfInBounds (o + i) v) T (0, 0)) := by
      rw [hset]; simp [Array.set!_eq_setIfInBounds, hB]
    obtain ⟨arr', h1, h2, h3⟩ := run_storeCells (B := B) (o := o) (T := T) vs (i + 1) _ _ hw1 (fun x hx => hs x (List.mem_cons_of_mem _ hx)) (by simp; omega)
    refine ⟨arr', ?_, by rw [h2]; simp, fun j => ?_⟩
    · simp only [storeCells,Sem.run_bind,hadd]
      rw [run_store (hs v (List.mem_cons_self ..)) hcell hfro]
      simp only [Result.andThen_ok]
      rw [h1, hset]
      simp only [set_set]
    · rw [h3]
      by_cases hj : j = o + i
      · subst hj
        rw [if_neg (by omega), if_pos (by simp), Nat.sub_self]
        simp [Array.getD, show o + i < arr.size by omega]
      · by_cases hj2 : o + (i + 1) ≤ j ∧ j < o + (i + 1) + vs.length
        · rw [if_pos hj2, if_pos (by simp; omega)]
          rw [show j - (o + i) = (j - (o + (i + 1))) + 1 by omega]
          simp
        · rw [if_neg hj2, if_neg (by simp; omega)]
          simp only [Array.getD,Array.size_setIfInBounds]
          split
          · exact Array.getElem_setIfInBounds_ne (by assumption) (Ne.symm hj)
          · rfl

theorem splice_length {cs new : List V} {off : Nat} (h : off + new.length ≤ cs.length) : (splice cs off new).length = cs.length := by
  simp [splice]; omega
theorem splice_get {cs new : List V} {off : Nat} (h : off + new.length ≤ cs.length) {i : Nat} (hi : i < (splice cs off new).length) :
    (splice cs off new)[i] = if h2 : off ≤ i ∧ i < off + new.length then new[i - off]'(by omega) else cs[i]'(by rw [splice_length h] at hi; exact hi) := by
  rw [splice_length h] at hi
  simp only [splice]
  split
  · rename_i h2
    rw [List.getElem_append_left (by simp; omega), List.getElem_append_right (by simp; omega)]
    congr 1
    simp; omega
  · rename_i h2
    rcases Nat.lt_or_ge i off with h3 | h3
    · rw [List.getElem_append_left (by simp; omega), List.getElem_append_left (by simp; omega)]
      simp
    · rw [List.getElem_append_right (by simp; omega)]
      simp only [List.getElem_drop]
      congr 1
      simp; omega

theorem all_get {l : List V} {p : V → Bool} (h : l.all p = true) {i : Nat} (hi : i < l.length) : p l[i] = true :=
  List.all_eq_true.1 h _ (List.getElem_mem hi)

theorem store_cells {k g esz : Nat} {cs new : List V} {off : Nat} {arr : Array Value} (hI : HInv P Out ρ H w) (hk : H[k]? = some (.cells g esz true cs)) (hl : off + new.length ≤ cs.length)
    (hsz : arr.size = new.length) (hr : ∀ i (h : i < new.length), Rel ρ H (BadIn Out ρ H) w new[i] (arr.getD i undef)) (hc : new.all V.isCell = true) :
    ∃ w', (storeCells ⟨ρ k, off, none⟩ arr.toList).run P w = .ok () w' ∧ Tr ρ H w ρ (H.set k (.cells g esz true (splice cs off new))) w' ∧
      HInv P Out ρ (H.set k (.cells g esz true (splice cs off new))) w' := by
  obtain ⟨blk, T, h4, h5, h6⟩ := hI.cells k _ _ _ _ hk
  obtain ⟨arr', h7, h8, h9⟩ := run_storeCells (P := P) (o := off) arr.toList 0 w blk h4 (fun v hv => by
    obtain ⟨i, hi, rfl⟩ := List.mem_iff_getElem.1 hv
    have hi' : i < new.length := by simpa [hsz] using hi
    have h := (hr i hi').storable (all_get hc hi')
    have hg : arr.getD i undef = arr.toList[i] := by simp [Array.getD, show i < arr.size by omega]
    rw [hg] at h
    exact h) (by simp; omega)
  obtain ⟨t, hI'⟩ := set_cells (w' := { w with heap := w.heap.set! (ρ k) (.cells arr' T (0, 0)) }) hI hk rfl h4 (Nat.le_refl g) rfl rfl rfl rfl h8 (cs' := splice cs off new)
    (by rw [splice_length hl, h8]; omega) (fun i hi => by
      rw [splice_get hl]
      have hi2 := hi
      rw [splice_length hl] at hi2
      rw [h9]
      split
      · rename_i h2
        rw [if_pos (by simp; omega)]
        have := hr (i - off) (by omega)
        have hg : arr.getD (i - off) undef = arr.toList.getD (i - (off + 0)) undef := by
          simp [Array.getD, List.getD, show i - off < arr.size by omega]
        rw [hg] at this
        exact this
      · rename_i h2
        rw [if_neg (by simp; omega)]
        exact h6 i hi2)
  exact ⟨_, h7, t, hI'⟩

theorem does_store {t : TypeId} {i : TypeInfo} {x y : Operand} {cx cy : X} (ho : o.op = .store t x y) (hi : P.info? t = some i) (hx : stripX P x = some cx) (hy : stripX P y = some cy)
    (hI : HInv P Out ρ H w) (hE : ERel Out ρ H w e a) {k g off esz : Nat} {cs : List V} (hp : cx.ev e = .cell k g off) (hk : H[k]? = some (.cells g esz true cs))
    (hsz : (cy.ev e).cells.length = i.size) (hl : off + i.size ≤ cs.length) (hc : (cy.ev e).cells.all V.isCell = true) :
    Does P a o Out ρ H w .und (H.set k (.cells g esz true (splice cs off (cy.ev e).cells))) := by
  have hrx := stripX_rel hI hE hx
  rw [hp] at hrx
  cases hx' : a.eval x with
  | pointer p => ?_
  | _ => rw [hx'] at hrx; cases hrx
  rw [hx'] at hrx
  cases hrx with
  | cell _ _ _ B hk' hg hB =>
  have hBk : B = ρ k := hB (by simp [genOf, hk, HObj.gen])
  subst hBk
  have hry := stripX_rel hI hE hy
  have hcb : (cy.ev e).isCell = true ∨ ∃ cs, cy.ev e = .agg cs := by
    cases hv : cy.ev e with
    | agg cs => exact .inr ⟨cs, rfl⟩
    | _ => rw [hv] at hc; simpa [V.cells] using hc
  obtain ⟨c1, c2⟩ := hry.cells hcb
  obtain ⟨w', h1, h2, h3⟩ := store_cells (P := P) (off := off) (new := (cy.ev e).cells) hI hk (by omega) c1 c2 hc
  refine ⟨ρ, w', h2, h3, .inr ⟨?_, rfl⟩⟩
  simp only [execOp,ho,Instr.storeAt,hx',Instr.sureAddr,storeVar]
  simp [run_size hi, c1, hsz, h1]

end
end Fe
namespace Fe
open Go Go.RowKit

section
variable {P : Program} {Out : Nat → Prop} {ρ : Nat → Nat} {H : Heap} {Bad : Nat → Prop} {w : World} {e : Env} {a : Act} {o : Oper}

theorem does_nilck {x : Operand} {cx : X} {v : V} (ho : o.op = .nilCheck x) (hx : stripX P x = some cx) (hI : HInv P Out ρ H w) (hE : ERel Out ρ H w e a)
    (hv : (match cx.ev e with | .cell k g off => some (V.cell k g off, H) | .rptr cs off => some (V.rptr cs off, H) | .fn f x y => some (V.fn f x y, H) | _ => none) = some (v, H)) : Does P a o Out ρ H w v H := by
  have h := stripX_rel hI hE hx
  cases hc : cx.ev e with
  | cell k g off =>
    rw [hc] at hv h
    cases hv
    cases hcx : a.eval x with
    | pointer p => ?_
    | _ => rw [hcx] at h; cases h
    rw [hcx] at h
    cases h with
    | cell _ _ _ B h1 h2 h3 => exact Does.pure hI (by simp [execOp, ho, hcx]) (.cell k g off B h1 h2 h3)
  | rptr cs off =>
    rw [hc] at hv h
    cases hv
    cases hcx : a.eval x with
    | pointer p => ?_
    | _ => rw [hcx] at h; cases h
    rw [hcx] at h
    cases h with
    | rptr _ _ B o' f h1 h2 h3 => exact Does.pure hI (by simp [execOp, ho, hcx]) (.rptr cs off B o' f h1 h2 h3)
  | fn f fs cs =>
    rw [hc] at hv h
    cases hv
    cases hcx : a.eval x with
    | func fn' p q => ?_
    | _ => rw [hcx] at h; cases h
    rw [hcx] at h
    cases h with
    | fn _ _ _ _ _ h1 h2 h3 h4 => exact Does.pure hI (c := .func (.func f) p q) (by simp [execOp, ho, hcx]) (.fn f fs cs p q h1 h2 h3 h4)
  | _ => rw [hc] at hv; cases hv

theorem run_binInt {op : BinOp} {k : IntKind} {p q : Int} {v : V} (h : binInt op k p q = some v) (t : TypeId) :
    ∃ c, (binOp op t (.int k p) (.int k q)).run P w = .ok c w ∧ Rel ρ H Bad w v c := by
  cases op <;> simp only [binInt] at h
  case add | sub | mul => cases h; exact ⟨.int k _, by simp [binOp, Op.intArith], .int _ _⟩
  case and | or | xor | andNot => cases h; exact ⟨.int k _, by simp [binOp, Op.intBits], .int _ _⟩
  case eql | neq | lss | leq | gtr | geq => cases h; exact ⟨.bool _, by simp [binOp, Op.intCmp], .bool _⟩
  case quo | rem =>
    split at h
    · cases h
    · rename_i hne
      cases h
      exact ⟨.int k _, by simp [binOp, Op.intDiv, hne], .int _ _⟩
  all_goals cases h

theorem run_binStr {op : BinOp} {x y : ByteArray} {v : V} (h : binStr op x.data.toList y.data.toList = some v) (t : TypeId) :
    ∃ c, (binOp op t (.string x) (.string y)).run P w = .ok c w ∧ Rel ρ H Bad w v c := by
  cases op <;> simp only [binStr] at h
  case add =>
    split at h
    · rename_i hle
      cases h
      refine ⟨.string (x ++ y), ?_, ?_⟩
      · have h1 : ¬ (((x.size + y.size : Nat) : Int) > IntKind.i64.max) := by
          have : IntKind.i64.max = 9223372036854775807 := by decide
          rw [this]
          simp only [Array.length_toList] at hle
          have e1 : x.data.size = x.size := rfl
          have e2 : y.data.size = y.size := rfl
          omega
        simp only [binOp,Op.stringOp]
        rw [if_neg h1]
        rfl
      · have : (x ++ y).data.toList = x.data.toList ++ y.data.toList := by simp
        rw [← this]; exact .str _
    · cases h
  case eql | neq | lss | leq | gtr | geq =>
    cases h
    refine ⟨.bool _, by simp only [binOp,Op.stringOp,ByteArray.toList_eq]; rfl, .bool _⟩
  all_goals cases h

theorem run_equalIn_bool (n : Nat) {t : TypeId} (hd : P.underlying t = some .bool) (p q : Bool) : (Op.equalIn (n + 1) t (.bool p) (.bool q)).run P w = .ok (p == q) w := by
  rw [Op.equalIn]
  simp only [Sem.run_bind,run_und hd,Result.andThen_ok]
  rfl
theorem run_equal_bool {t : TypeId} (hd : P.underlying t = some .bool) (p q : Bool) : (Op.equal t (.bool p) (.bool q)).run P w = .ok (p == q) w :=
  run_equalIn_bool 9999 hd p q

theorem run_equalIn_ptr (n : Nat) {t el : TypeId} (hd : P.underlying t = some (.pointer el)) {p q : Option Addr} (h : p = none ∨ q = none) :
    (Op.equalIn (n + 1) t (.pointer p) (.pointer q)).run P w = .ok (p.isNone && q.isNone) w := by
  rw [Op.equalIn]
  simp only [Sem.run_bind,run_und hd,Result.andThen_ok]
  rcases h with rfl | rfl
  · rfl
  · cases p <;> rfl
theorem run_equal_ptr {t el : TypeId} (hd : P.underlying t = some (.pointer el)) {p q : Option Addr} (h : p = none ∨ q = none) :
    (Op.equal t (.pointer p) (.pointer q)).run P w = .ok (p.isNone && q.isNone) w := run_equalIn_ptr 9999 hd h

theorem run_equal_nilf {t : TypeId} {x y : Value} (hd : (P.underlying t).any (clsOf · == 4) = true) (hx : x = .nilFunc ∨ ∃ f p q, x = .func f p q) (hy : y = .nilFunc) :
    (Op.equal t x y).run P w = .ok (match x with | .nilFunc => true | _ => false) w := by
  subst hy
  cases hu : P.underlying t with
  | none => rw [hu] at hd; cases hd
  | some d =>
    rw [hu] at hd
    show (Op.equalIn (9999 + 1) t x .nilFunc).run P w = _
    rw [Op.equalIn]
    simp only [Sem.run_bind,run_und hu,Result.andThen_ok]
    cases d <;> simp [clsOf] at hd
    rcases hx with rfl | ⟨f, p, q, rfl⟩ <;> rfl

theorem run_binV {d : TypeDesc} {op : BinOp} {u v r : V} {x y : Value} {t : TypeId} (hd : P.underlying t = some d) (hx : Rel ρ H Bad w u x) (hy : Rel ρ H Bad w v y)
    (h : binV (clsOf d) op u v = some r) : ∃ c, (binOp op t x y).run P w = .ok c w ∧ Rel ρ H Bad w r c := by
  unfold binV at h
  split at h
  · cases hx; cases hy
    rename_i k p k' q
    split at h
    · split at h
      · cases h
      · rename_i hne
        cases h
        refine ⟨.int k _, by simp only [binOp,Op.shift]; rw [if_neg hne]; rfl, .int _ _⟩
    · split at h
      · cases h
      · rename_i hne
        cases h
        refine ⟨.int k _, by simp only [binOp,Op.shift]; rw [if_neg hne]; rfl, .int _ _⟩
    · split at h
      · rename_i hk
        subst hk
        exact run_binInt h t
      · cases h
  · cases hx; cases hy; exact run_binStr h t
  · cases hx; cases hy
    rename_i p q
    split at h
    · rename_i hc
      cases h
      have hdb : d = .bool := by cases d <;> simp_all [clsOf]
      subst hdb
      exact ⟨.bool _, by simp [binOp, run_equal_bool, hd], .bool _⟩
    · rename_i hc
      cases h
      have hdb : d = .bool := by cases d <;> simp_all [clsOf]
      subst hdb
      exact ⟨.bool _, by simp [binOp, run_equal_bool, hd], .bool _⟩
    · cases h
  · cases hx; cases hy
    split at h
    · rename_i hc
      cases h
      obtain ⟨el, rfl⟩ : ∃ el, d = .pointer el := by cases d <;> simp_all [clsOf]
      exact ⟨.bool _, by simp [binOp, run_equal_ptr, hd], .bool _⟩
    · rename_i hc
      cases h
      obtain ⟨el, rfl⟩ : ∃ el, d = .pointer el := by cases d <;> simp_all [clsOf]
      exact ⟨.bool _, by simp [binOp, run_equal_ptr, hd], .bool _⟩
    · cases h
  · cases hx; cases hy
    split at h
    · rename_i hc
      cases h
      obtain ⟨el, rfl⟩ : ∃ el, d = .pointer el := by cases d <;> simp_all [clsOf]
      exact ⟨.bool _, by simp [binOp, run_equal_ptr, hd], .bool _⟩
    · rename_i hc
      cases h
      obtain ⟨el, rfl⟩ : ∃ el, d = .pointer el := by cases d <;> simp_all [clsOf]
      exact ⟨.bool _, by simp [binOp, run_equal_ptr, hd], .bool _⟩
    · cases h
  · cases hx; cases hy
    split at h
    · rename_i hc
      cases h
      obtain ⟨el, rfl⟩ : ∃ el, d = .pointer el := by cases d <;> simp_all [clsOf]
      exact ⟨.bool _, by simp [binOp, run_equal_ptr, hd], .bool _⟩
    · rename_i hc
      cases h
      obtain ⟨el, rfl⟩ : ∃ el, d = .pointer el := by cases d <;> simp_all [clsOf]
      exact ⟨.bool _, by simp [binOp, run_equal_ptr, hd], .bool _⟩
    · cases h
  · cases hx; cases hy
    split at h
    · rename_i hc
      cases h
      obtain ⟨el, rfl⟩ : ∃ el, d = .pointer el := by cases d <;> simp_all [clsOf]
      exact ⟨.bool _, by simp [binOp, run_equal_ptr, hd], .bool _⟩
    · rename_i hc
      cases h
      obtain ⟨el, rfl⟩ : ∃ el, d = .pointer el := by cases d <;> simp_all [clsOf]
      exact ⟨.bool _, by simp [binOp, run_equal_ptr, hd], .bool _⟩
    · cases h
  · cases hx; cases hy
    split at h
    · rename_i hc
      cases h
      exact ⟨.bool _, by simp [binOp, run_equal_nilf, hd, hc], .bool _⟩
    · rename_i hc
      cases h
      exact ⟨.bool _, by simp [binOp, run_equal_nilf, hd, hc], .bool _⟩
    · cases h
  · cases hx; cases hy
    split at h
    · rename_i hc
      cases h
      exact ⟨.bool _, by simp [binOp, run_equal_nilf, hd, hc], .bool _⟩
    · rename_i hc
      cases h
      exact ⟨.bool _, by simp [binOp, run_equal_nilf, hd, hc], .bool _⟩
    · cases h
  · cases h

theorem run_eqGuard {op : BinOp} {t : TypeId} {x y : Operand} {u v : V} {p q : Value} (hx : Rel ρ H Bad w u p) (hy : Rel ρ H Bad w v q) {cls : Nat} {r : V} (h : binV cls op u v = some r) :
    (eqGuard op t x y p q).run P w = .ok () w := by
  have key : (∀ l l', ¬ (p = .agg l ∧ q = .agg l')) ∧ ¬ (p = .nilIface ∧ q = .nilIface) := by
    refine ⟨?_, ?_⟩
    · rintro l l' ⟨rfl, rfl⟩
      cases hx <;> cases hy <;> simp [binV] at h
    · rintro ⟨rfl, rfl⟩
      cases hx; simp [binV] at h
  unfold eqGuard
  repeat' split
  all_goals first
    | rfl
    | exact absurd ⟨rfl, rfl⟩ key.2
    | exact absurd ⟨rfl, rfl⟩ (key.1 _ _)

theorem does_bin {op : BinOp} {t u : TypeId} {d : TypeDesc} {x y : Operand} {cx cy : X} {r : V} (ho : o.op = .binOp op t x y u) (hd : P.underlying t = some d)
    (hx : stripX P x = some cx) (hy : stripX P y = some cy) (hI : HInv P Out ρ H w) (hE : ERel Out ρ H w e a) (h : binV (clsOf d) op (cx.ev e) (cy.ev e) = some r) : Does P a o Out ρ H w r H := by
  have h1 := stripX_rel hI hE hx
  have h2 := stripX_rel hI hE hy
  obtain ⟨c, hc, hr⟩ := run_binV hd h1 h2 h
  refine Does.pure hI (c := c) ?_ hr
  simp [execOp, ho, run_eqGuard h1 h2 h, hc]

theorem does_un {op : UnOp} {t : TypeId} {x : Operand} {cx : X} {r : V} (ho : o.op = .unOp op t x) (hx : stripX P x = some cx)
    (hI : HInv P Out ρ H w) (hE : ERel Out ρ H w e a) (h : unV op (cx.ev e) = some r) : Does P a o Out ρ H w r H := by
  have h1 := stripX_rel hI hE hx
  unfold unV at h
  split at h
  · rename_i b hb
    cases h
    rw [hb] at h1
    exact Does.pure hI (c := .bool (!b)) (by simp [execOp, ho, h1.bool_inv, Op.unary]) (.bool _)
  · rename_i hb
    cases h
    rw [hb] at h1
    cases hc : a.eval x with
    | bool b => exact Does.pure hI (c := .bool (!b)) (by simp [execOp, ho, hc, Op.unary]) (.anyb _)
    | _ => rw [hc] at h1; cases h1
  · rename_i k n hb
    split at h
    · cases h
    · rename_i hs
      rw [hb] at h1
      obtain ⟨c, hc, hr⟩ := run_binInt (P := P) (ρ := ρ) (H := H) (Bad := BadIn Out ρ H) (w := w) h 0
      refine Does.pure hI (c := c) ?_ hr
      have hu : (Op.unary .xor (.int k n)).run P w = .ok c w := by
        rw [← hc]
        simp only [Op.unary,binOp,if_neg hs]
        simp
      simp only [execOp,ho,h1.int_inv,Sem.run_bind,hu]
      rfl
  · rename_i k n hb
    cases h
    rw [hb] at h1
    exact Does.pure hI (c := .int k (k.wrap (0 - n))) (by simp [execOp, ho, h1.int_inv, Op.unary, Op.intArith]) (.int _ _)
  · cases h

theorem nilTest_inv {op : BinOp} {y : Operand} {neg : Bool} (h : nilTest op y = some neg) : y = .const (.slice none 0 0) ∧ (op = .eql ∧ neg = false ∨ op = .neq ∧ neg = true) := by
  unfold nilTest at h
  split at h
  · cases h; exact ⟨rfl, .inl ⟨rfl, rfl⟩⟩
  · cases h; exact ⟨rfl, .inr ⟨rfl, rfl⟩⟩
  · cases h

theorem run_equalIn_sl (k : Nat) {t el : TypeId} (hd : P.underlying t = some (.slice el)) (q : Option Addr) (n m : Nat) : (Op.equalIn (k + 1) t (.slice q n m) (.slice none 0 0)).run P w = .ok q.isNone w := by
  simp only [Op.equalIn,Sem.run_bind,run_und hd,Result.andThen_ok]
  cases q <;> rfl

theorem run_equal_sl {t el : TypeId} (hd : P.underlying t = some (.slice el)) (q : Option Addr) (n m : Nat) : (Op.equal t (.slice q n m) (.slice none 0 0)).run P w = .ok q.isNone w :=
  run_equalIn_sl _ hd q n m

theorem run_isnil {op : BinOp} {neg : Bool} {t el u : TypeId} {x y : Operand} (ho : o.op = .binOp op t x y u) (ht : nilTest op y = some neg) (hd : P.underlying t = some (.slice el)) (q : Option Addr) (n m : Nat)
    (hx : a.eval x = .slice q n m) : (execOp a.eval o).run P w = .ok (.value (.bool (q.isNone != neg))) w := by
  obtain ⟨rfl, h⟩ := nilTest_inv ht
  have hy : a.eval (.const (.slice none 0 0)) = .slice none 0 0 := rfl
  rcases h with ⟨rfl, rfl⟩ | ⟨rfl, rfl⟩
  · simp [execOp, ho, hx, hy, eqGuard, binOp, run_equal_sl hd]
  · simp [execOp, ho, hx, hy, eqGuard, binOp, run_equal_sl hd]

theorem does_isnil {op : BinOp} {neg : Bool} {t el u : TypeId} {x y : Operand} {cx : X} {v : V} {H' : Heap} (ho : o.op = .binOp op t x y u) (ht : nilTest op y = some neg) (hd : P.underlying t = some (.slice el)) (hx : stripX P x = some cx)
    (hI : HInv P Out ρ H w) (hE : ERel Out ρ H w e a)
    (h : (match cx.ev e with
      | .sl _ cs n => if cs.isEmpty = true ∧ n = 0 then some (V.anyb, H) else some (.bool neg, H)
      | .view _ _ _ _ => some (.bool neg, H)
      | _ => none) = some (v, H')) : H' = H ∧ Does P a o Out ρ H w v H := by
  have h1 := stripX_rel hI hE hx
  split at h
  · rename_i ex cs n hv
    rw [hv] at h1
    generalize hc : a.eval x = c at h1
    cases h1 with
    | sl _ _ _ B o' cap f a1 a2 a3 a4 a5 =>
      have hr := run_isnil (w := w) ho ht hd _ _ _ hc
      split at h
      · cases h
        exact ⟨rfl, Does.pure hI hr (.anyb _)⟩
      · cases h
        refine ⟨rfl, Does.pure hI hr ?_⟩
        simpa using (Rel.bool (ρ := ρ) (H := H) (Bad := BadIn Out ρ H) (w := w) neg)
    | slnil =>
      have hr := run_isnil (w := w) ho ht hd _ _ _ hc
      split at h
      · cases h
        exact ⟨rfl, Does.pure hI hr (.anyb _)⟩
      · rename_i hne
        exact absurd ⟨rfl, rfl⟩ hne
  · rename_i k g off n hv
    rw [hv] at h1
    cases h
    generalize hc : a.eval x = c at h1
    cases h1 with
    | view _ _ _ _ B cap a1 a2 a3 a4 =>
      have hr := run_isnil (w := w) ho ht hd _ _ _ hc
      refine ⟨rfl, Does.pure hI hr ?_⟩
      simpa using (Rel.bool (ρ := ρ) (H := H) (Bad := BadIn Out ρ H) (w := w) neg)
  · cases h

end
end Fe
