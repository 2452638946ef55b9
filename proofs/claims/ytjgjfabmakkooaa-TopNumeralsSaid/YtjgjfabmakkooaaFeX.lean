/-
  Whole functions, the rules that the runs use, numbers. No condition.
-/
import Derived.Test.YtjgjfabmakkooaaFeT
set_option linter.unusedSimpArgs false
set_option linter.unusedVariables false
namespace Fe
open Go Go.RowKit

section
variable {P : Program} {Out Bad : Nat → Prop} {ρ : Nat → Nat} {H : Heap} {w w' : World} {e : Env} {a : Act}

/-! ### Results -/
theorem loadV_sound {t : TypeId} {d : TypeDesc} {i : TypeInfo} {v r : V} {c : Value} {lim : Nat} (hd : P.underlying t = some d) (hi : P.info? t = some i) (hI : HInv P Out ρ H w) (hc : Rel ρ H (BadIn Out ρ H) w v c)
    (hr : loadV lim (isAggD d) i.size H v = some r) : ∃ B off c', c = .pointer (some ⟨B, off, none⟩) ∧ (loadVar t ⟨B, off, none⟩).run P w = .ok c' w ∧ Rel ρ H (BadIn Out ρ H) w r c' := by
  obtain ⟨B, off, f, h1, h2, h3⟩ := ptr_cells hI hc hr
  refine ⟨B, off, _, h1, run_loadVar hd hi B off f h2, ?_⟩
  cases hagg : isAggD d with
  | true =>
    rw [hagg] at h3
    simp only [if_true] at h3 ⊢
    obtain ⟨l, rfl, hl, hrel⟩ := h3
    refine .agg _ _ (by simp [hl]) (fun j hj => ?_)
    have : (Array.map f (Array.range i.size)).getD j undef = f j := by simp [Array.getD, show j < i.size by omega]
    rw [this]
    exact hrel j hj
  | false =>
    rw [hagg] at h3
    simpa using h3

def resultRun (tmps : Array Value) : ResultVar → Sem Value
  | .tmp t => pure (tmps.getD t undef)
  | .cell a t => do loadVar t (← asAddr (tmps.getD a undef))

theorem resultV_sound (hI : HInv P Out ρ H w) (hE : ERel Out ρ H w e a) {x : ResultVar} {o : O} {v : V} (hs : stripR P x = some o) (hv : resultV o e H = some v) :
    ∃ c, (resultRun a.tmps x).run P w = .ok c w ∧ Rel ρ H (BadIn Out ρ H) w v c := by
  cases x with
  | tmp t =>
    cases hs
    cases hv
    exact ⟨_, rfl, hE t⟩
  | cell p t =>
    simp only [stripR,stripO,Option.bind_eq_bind,Option.bind_eq_some_iff,Option.pure_def,Option.some.injEq] at hs
    obtain ⟨d, hd, i, hi, cx, hx, rfl⟩ := hs
    cases hx
    simp only [resultV,X.ev] at hv
    obtain ⟨B, off, c', h1, h2, h3⟩ := loadV_sound hd hi hI (hE p) hv
    refine ⟨c', ?_, h3⟩
    simp only [resultRun,Sem.run_bind,h1,asAddr]
    simpa using h2

theorem resultsL_sound (hI : HInv P Out ρ H w) (hE : ERel Out ρ H w e a) : ∀ {xs : List ResultVar} {os : List O} {vs : List V}, xs.mapM (stripR P) = some os → (os.mapM fun o => resultV o e H) = some vs →
    ∃ cs : List Value, (xs.mapM (resultRun a.tmps)).run P w = .ok cs w ∧ cs.length = vs.length ∧ ∀ i (h : i < vs.length), Rel ρ H (BadIn Out ρ H) w vs[i] (cs.getD i undef)
  | [], os, vs, h1, h2 => by
    simp at h1
    subst h1
    simp at h2
    subst h2
    exact ⟨[], rfl, rfl, fun i hi => absurd hi (Nat.not_lt_zero _)⟩
  | x :: xs, os, vs, h1, h2 => by
    rw [List.mapM_cons] at h1
    simp only [Option.bind_eq_bind,Option.bind_eq_some_iff,Option.pure_def,Option.some.injEq] at h1
    obtain ⟨o, ho, os, hos, rfl⟩ := h1
    rw [List.mapM_cons] at h2
    simp only [Option.bind_eq_bind,Option.bind_eq_some_iff,Option.pure_def,Option.some.injEq] at h2
    obtain ⟨v, hv, vs, hvs, rfl⟩ := h2
    obtain ⟨c, k1, k2⟩ := resultV_sound hI hE ho hv
    obtain ⟨cs, k3, k4, k5⟩ := resultsL_sound hI hE hos hvs
    refine ⟨c :: cs, by simp [List.mapM_cons, k1, k3], by simp [k4], fun i hi => ?_⟩
    cases i with
    | zero => exact k2
    | succ i => simpa using k5 i (by simpa using hi)

theorem results_sound {fn : Func} {os : List O} {v : V} (hI : HInv P Out ρ H w) (hE : ERel Out ρ H w e a) (hs : fn.results.toList.mapM (stripR P) = some os) (hv : resultsV os e H = some v) :
    ∃ c, (results fn a.tmps).run P w = .ok c w ∧ Rel ρ H (BadIn Out ρ H) w v c := by
  simp only [resultsV,Option.map_eq_some_iff] at hv
  obtain ⟨vs, hvs, rfl⟩ := hv
  obtain ⟨cs, h1, h2, h3⟩ := resultsL_sound hI hE hs hvs
  have hrun : (results fn a.tmps).run P w = .ok (if h : cs.toArray.size = 1 then cs.toArray[0] else .tuple cs.toArray) w := by
    have hm : (fn.results.mapM (resultRun a.tmps)).run P w = .ok cs.toArray w := by
      rw [Array.mapM_eq_mapM_toList]
      simp only [Sem.run_map,h1]
      rfl
    have : results fn a.tmps = (do let vs ← fn.results.mapM (resultRun a.tmps); pure (if h : vs.size = 1 then vs[0] else .tuple vs)) := by
      unfold results
      congr 1
    rw [this, Sem.run_bind, hm]
    rfl
  refine ⟨_, hrun, ?_⟩
  match vs, h2, h3 with
  | [v], h2, h3 =>
    obtain ⟨c, rfl⟩ := List.length_eq_one_iff.1 h2
    have := h3 0 (by simp)
    simpa using this
  | [], h2, h3 =>
    obtain rfl := List.length_eq_zero_iff.1 h2
    exact .tup _ _ (by simp) fun i hi => absurd hi (Nat.not_lt_zero _)
  | v :: v' :: vs, h2, h3 =>
    have : ¬ (cs.toArray.size = 1) := by simp [h2]
    rw [dif_neg this]
    refine .tup _ _ (by simpa using h2) fun i hi => ?_
    have := h3 i hi
    have hi' : i < cs.length := by rw [h2]; exact hi
    simpa [Array.getD, List.getD, hi'] using this

/-! ### Whole functions -/
def enterEnv (as : List V) : Env := fun t => as.getD t .und

theorem enter_rel {as : List V} {ca : Array Value} (hs : ca.size = as.length) (hr : ∀ i (h : i < as.length), Rel ρ H (BadIn Out ρ H) w as[i] (ca.getD i undef)) (n : Nat) (ds : List Deferred) :
    ERel Out ρ H w (enterEnv as) { tmps := ca ++ Array.replicate n undef, defers := ds } := by
  intro t
  simp only [enterEnv]
  rcases Nat.lt_or_ge t as.length with h | h
  · rw [getD_append_left (by omega)]
    have := hr t h
    simpa [List.getD, h] using this
  · simp only [List.getD,List.getElem?_eq_none h,Option.getD_none]
    exact .und _

/-- How a body ends: at its end, or by a return; with this value. -/
def Done (rs : List O) (K : V → Heap → Prop) : Cont := fun x e H => (x = .normal ∨ x = .ret) ∧ ∃ v, resultsV rs e H = some v ∧ K v H

theorem stripF_inv {f : FuncId} {cf : CF} (h : stripF P f = some cf) : Enters P f ∧ ∃ fn body, P.funcs[f]? = some fn ∧ fn.body = some body ∧ stripCode P fn.ntmps body = some cf.body ∧
    fn.results.toList.mapM (stripR P) = some cf.res ∧ cf.ntmps = fn.ntmps := by
  simp only [stripF,Option.bind_eq_bind,Option.bind_eq_some_iff] at h
  obtain ⟨fn, h1, body, h2, h⟩ := h
  split at h
  · cases h
  · rename_i hne
    simp only [Option.bind_eq_some_iff,Option.pure_def,Option.some.injEq] at h
    obtain ⟨c, h3, rs, h4, rfl⟩ := h
    exact ⟨⟨fn, h1, by rw [h2]; rfl, hne⟩, fn, body, h1, h2, h3, h4, rfl⟩

/-- A loop's block is shut. -/
theorem Rel.shut {r : Nat} {x : Option (List Deferred)} (hr : w.heap[r]? = some (.deferred x)) {v : V} {c : Value} (h : Rel ρ H Bad w v c) : Rel ρ H Bad (w.putObj r (.deferred none)) v c := by
  have hc : ∀ {B i : Nat} {y : Value}, w.cell? ⟨B, i, none⟩ = some y → (w.putObj r (.deferred none)).cell? ⟨B, i, none⟩ = some y := by
    intro B i y hy
    have : B ≠ r := by rintro rfl; simp [World.cell?, hr] at hy
    rw [cell_of_block (World.putObj_heap_other this)]
    exact hy
  induction h with
  | bool b => exact .bool b
  | int k n => exact .int k n
  | str s => exact .str s
  | nilp => exact .nilp
  | cell k g off B h1 h2 h3 => exact .cell k g off B h1 h2 h3
  | rptr cs off B o f h1 h2 h3 ih => exact .rptr cs off B o f (fun i hi => hc (h1 i hi)) ih h3
  | sl ex cs n B o cap f h1 h2 h3 h4 h5 ih => exact .sl ex cs n B o cap f (fun i hi => hc (h1 i hi)) ih h3 h4 h5
  | slnil ex => exact .slnil ex
  | view k g off n B cap h1 h2 h3 h4 =>
    refine .view k g off n B cap h1 h2 (fun e => ⟨(h3 e).1, fun arr T fz ha => (h3 e).2 arr T fz ?_⟩) h4
    by_cases hk : ρ k = r
    · rw [hk] at ha ⊢
      have hlt : r < w.heap.size := by
        rcases Nat.lt_or_ge r w.heap.size with h | h
        · exact h
        · simp [Array.getElem?_eq_none h] at hr
      rw [World.putObj_heap_same hlt] at ha
      cases ha
    · rwa [World.putObj_heap_other hk] at ha
  | fn f fs cs fa ca h1 h2 h3 h4 ih1 ih2 => exact .fn f fs cs fa ca h1 h2 ih1 ih2
  | nilf => exact .nilf
  | agg cs arr h1 _ ih => exact .agg cs arr h1 ih
  | tup cs arr h1 _ ih => exact .tup cs arr h1 ih
  | und c => exact .und c
  | anyb b => exact .anyb b
  | yld k B h1 h2 => exact .yld k B h1 h2
  | mp k B h1 h2 => exact .mp k B h1 h2
  | mnil => exact .mnil

theorem shut_obj {r k : Nat} {x : Option (List Deferred)} {o : Obj} (hr : w.heap[r]? = some (.deferred x)) (hk : w.heap[k]? = some o) (ho : ∀ x, o ≠ .deferred x) : (w.putObj r (.deferred none)).heap[k]? = some o := by
  have : k ≠ r := by rintro rfl; rw [hr] at hk; cases hk; exact ho _ rfl
  rw [World.putObj_heap_other this, hk]

theorem HInv.shut (hI : HInv P Out ρ H w) {r : Nat} {x : Option (List Deferred)} (hr : w.heap[r]? = some (.deferred x)) : HInv P Out ρ H (w.putObj r (.deferred none)) := by
  refine ⟨fun B hB => by simpa using hI.out B hB, hI.inj, fun k hk => by simpa using hI.lt k hk, fun k g e o cs hk => ?_, fun k s p hk => ?_, fun k S ps e st pend hk => ?_, fun k es hk => ?_, ?_⟩
  · obtain ⟨arr, T, h4, h5, h6⟩ := hI.cells k _ _ _ _ hk
    exact ⟨arr, T, shut_obj hr h4 (by intro x h; cases h), h5, fun i hi => (h6 i hi).shut hr⟩
  · obtain ⟨ba, h4, h5⟩ := hI.iter k _ _ hk
    exact ⟨ba, h4, shut_obj hr h5 (by intro x h; cases h)⟩
  · obtain ⟨fn, tmps, a, b, ds, h1, h2, h3⟩ := hI.loop k _ _ _ _ _ hk
    exact ⟨fn, tmps, a, b, ds, h1, fun t => (h2 t).shut hr, shut_obj hr h3 (by intro x h; cases h)⟩
  · obtain ⟨arr, clock, h1, h2, h3⟩ := hI.map k _ hk
    exact ⟨arr, clock, shut_obj hr h1 (by intro x h; cases h), h2, fun i h h' => ⟨(h3 i h h').1.shut hr, (h3 i h h').2.shut hr⟩⟩
  · refine ⟨fun g ns hg => ?_, fun g hg => ?_⟩
    · obtain ⟨h1, h2, h3⟩ := hI.base.1 g ns hg
      refine ⟨h1, by simpa using h2, fun i hi => ?_⟩
      have h4 := h3 i hi
      have hne : g ≠ r := by
        rintro rfl
        unfold World.cell? at h4
        simp [hr] at h4
      rw [cell_of_block (World.putObj_heap_other hne)]
      exact h4
    · obtain ⟨h1, h2, m, h4⟩ := hI.base.2 g hg
      refine ⟨h1, by simpa using h2, m, ?_⟩
      have hne : g ≠ r := by
        rintro rfl
        unfold World.cell? at h4
        simp [hr] at h4
      rw [cell_of_block (World.putObj_heap_other hne)]
      exact h4

theorem Marks.shut {n₀ r : Nat} : ∀ {D : List Deferred}, Marks n₀ ρ H w D → (∀ d ∈ D, d ≠ { target := .collected r, args := #[] }) → Marks n₀ ρ H (w.putObj r (.deferred none)) D
  | [], _, _ => trivial
  | d :: D, ⟨⟨q, h1, h2, h3, h4, h5, h6⟩, h⟩, hn => by
    have : q ≠ r := by rintro rfl; exact hn d (List.mem_cons_self ..) h1
    exact ⟨⟨q, h1, h2, by simpa using h3, h4, by rw [World.putObj_heap_other this]; exact h5, h6⟩, h.shut fun d' hd => hn d' (List.mem_cons_of_mem _ hd)⟩

theorem Tr.shut {ρ₀ : Nat → Nat} {H₀ : Heap} {w₀ : World} (t : Tr ρ₀ H₀ w₀ ρ H w) {r : Nat} (hr : w₀.heap.size ≤ r) : Tr ρ₀ H₀ w₀ ρ H (w.putObj r (.deferred none)) where
  os := t.os
  tape := t.tape
  output := t.output
  size := by simpa using t.size
  keep := fun B hB hm => by rw [World.putObj_heap_other (by omega)]; exact t.keep B hB hm
  len := t.len
  gen := t.gen
  same := fun k hk hg => by
    obtain ⟨a1, a2, a3⟩ := t.same k hk hg
    refine ⟨a1, a2, fun arr T fz hc => a3 arr T fz ?_⟩
    by_cases he : ρ₀ k = r
    · rw [he] at hc ⊢
      rcases Nat.lt_or_ge r w.heap.size with h | h
      · rw [World.putObj_heap_same h] at hc; cases hc
      · rw [Array.getElem?_eq_none (by simpa using h)] at hc; cases hc
    · rwa [World.putObj_heap_other he] at hc
  wrt := t.wrt

theorem leaves_marks {F : Fence} {n : Nat} {fn : Func} {os : List O} {v : V} {K : V → Heap → Prop} {ρ₀ : Nat → Nat} {H₀ : Heap} {w₀ : World} (hs : fn.results.toList.mapM (stripR P) = some os) (hv : resultsV os e H = some v) (hK : K v H) :
    ∀ {D : List Deferred} {w : World}, HInv P Out ρ H w → ERel Out ρ H w e a → Marks w₀.heap.size ρ H w D → Tr ρ₀ H₀ w₀ ρ H w →
      LeavesInM F n P fn a.tmps (fun e w' => ∃ c r H' ρ', e = .returned c ∧ Tr ρ₀ H₀ w₀ ρ' H' w' ∧ HInv P Out ρ' H' w' ∧ Rel ρ' H' (BadIn Out ρ' H') w' r c ∧ K r H') D .returning w
  | [], w, hI, hE, _, ht => by
    obtain ⟨c, hrun, hrel⟩ := results_sound hI hE hs hv
    exact ⟨c, hrun, c, v, H, ρ, rfl, ht, hI, hrel, hK⟩
  | d :: D, w, hI, hE, ⟨⟨r, h1, h2, h3, h4, h5, h6⟩, hM⟩, ht => by
    subst h1
    exact ⟨by simp, .inl ⟨r, _, rfl, run_takeDeferred h5, leaves_marks hs hv hK (hI.shut h5) (fun t => (hE t).shut h5) (hM.shut h6) (ht.shut h2)⟩⟩

/-- A body's run makes the call. -/
theorem calls_of_run (hmix : P.follows .mixedOrders = true) {f : FuncId} {cf : CF} {as : List V} {K : V → Heap → Prop} (hs : stripF P f = some cf) (hl : as.length ≤ cf.ntmps) (hr : run P cf.body (enterEnv as) H (Done cf.res K))
    {ca : Array Value} (hI : HInv P Out ρ H w) (hca : ca.size = as.length) (hrel : ∀ i (h : i < as.length), Rel ρ H (BadIn Out ρ H) w as[i] (ca.getD i undef)) :
    Calls P f ca w fun e w' => ∃ c r H' ρ', e = .returned c ∧ Tr ρ H w ρ' H' w' ∧ HInv P Out ρ' H' w' ∧ Rel ρ' H' (BadIn Out ρ' H') w' r c ∧ K r H' := by
  obtain ⟨_, fn, body, h1, h2, h3, h4, h5⟩ := stripF_inv hs
  refine callsIn_wide.1 (callsIn_of_wp_marks (n := 0) h1 h2 trivial (wpIn_mono (run_sound (D := []) (N := fn.ntmps) hmix (wide_wide P) h3 (.inl rfl) hr hI (enter_rel hca hrel _ _) ⟨?_, rfl⟩ trivial (.refl _ _ _)) ?_))
  · simp only [Array.size_append,Array.size_replicate]
    omega
  · rintro x a' w' ⟨cx, e', H', ρ', D', rfl, ⟨hx, v, hv, hK⟩, hI', hE', hA', hM', ht'⟩
    have hd := hA'.defers
    subst hd
    rcases hx with rfl | rfl
    · exact leaves_marks h4 hv hK hI' hE' hM' ht'
    · exact leaves_marks h4 hv hK hI' hE' hM' ht'

theorem call2_of_run (hmix : P.follows .mixedOrders = true) {f : FuncId} {cf : CF} {as : List V} {K : V → Heap → Prop} (hs : stripF P f = some cf) (hl : as.length ≤ cf.ntmps) (hr : run P cf.body (enterEnv as) H (Done cf.res K)) :
    Call2 P f as H K :=
  ⟨(stripF_inv hs).1, fun _ _ _ _ hI hca hrel => calls_of_run hmix hs hl hr hI hca hrel⟩

/-! ### What a call hands back without the heap -/
mutual
/-- Without what is known of capacities. -/
def V.weak : V → V
  | .sl _ cs n => .sl false cs n
  | .agg cs => .agg (weakL cs)
  | .tup cs => .tup (weakL cs)
  | v => v
def weakL : List V → List V
  | [] => []
  | v :: vs => v.weak :: weakL vs
end
theorem weakL_len : ∀ l : List V, (weakL l).length = l.length
  | [] => rfl
  | v :: vs => by simp [weakL, weakL_len vs]
theorem weakL_get : ∀ (l : List V) (i : Nat) (h : i < (weakL l).length) (h' : i < l.length), (weakL l)[i] = l[i].weak
  | v :: vs, 0, _, _ => rfl
  | v :: vs, i + 1, h, h' => by
    simp only [weakL,List.getElem_cons_succ]
    exact weakL_get vs i _ _

theorem Rel.weak {v : V} {c : Value} (h : Rel ρ H Bad w v c) : Rel ρ H Bad w v.weak c := by
  induction h with
  | sl ex cs n B o cap f h1 h2 h3 h4 h5 ih => exact .sl false cs n B o cap f h1 h2 h3 h4 (fun h => by cases h)
  | slnil ex => exact .slnil false
  | agg cs arr h1 h2 ih =>
    refine .agg (weakL cs) arr (by rw [weakL_len]; exact h1) fun i hi => ?_
    have hi' : i < cs.length := by rw [weakL_len] at hi; exact hi
    rw [weakL_get cs i hi hi']
    exact ih i hi'
  | tup cs arr h1 h2 ih =>
    refine .tup (weakL cs) arr (by rw [weakL_len]; exact h1) fun i hi => ?_
    have hi' : i < cs.length := by rw [weakL_len] at hi; exact hi
    rw [weakL_get cs i hi hi']
    exact ih i hi'
  | bool b => exact .bool b
  | int k n => exact .int k n
  | str s => exact .str s
  | nilp => exact .nilp
  | cell k g off B h1 h2 h3 => exact .cell k g off B h1 h2 h3
  | rptr cs off B o f h1 h2 h3 ih => exact .rptr cs off B o f h1 h2 h3
  | view k g off n B cap h1 h2 h3 h4 => exact .view k g off n B cap h1 h2 h3 h4
  | fn f fs cs fa ca h1 h2 h3 h4 ih1 ih2 => exact .fn f fs cs fa ca h1 h2 h3 h4
  | nilf => exact .nilf
  | und c => exact .und c
  | anyb b => exact .anyb b
  | yld k B h1 h2 => exact .yld k B h1 h2
  | mp k B h1 h2 => exact .mp k B h1 h2
  | mnil => exact .mnil

mutual
theorem weak_ro : ∀ {v : V}, v.ro = true → v.weak.ro = true
  | .sl _ cs n, h => h
  | .agg cs, h => weakL_ro (cs := cs) h
  | .tup cs, h => weakL_ro (cs := cs) h
  | .bool _, h | .int _ _, h | .str _, h | .nilp, h | .cell _ _ _, h | .rptr _ _, h | .osl _ _ _, h | .view _ _ _ _, h | .fn _ _ _, h | .nilf, h | .und, h | .anyb, h | .yld _, h | .mp _, h | .mnil, h => h
theorem weakL_ro : ∀ {cs : List V}, roL cs = true → roL (weakL cs) = true
  | [], _ => rfl
  | v :: vs, h => by
    simp only [roL,Bool.and_eq_true] at h
    simp only [weakL,roL,Bool.and_eq_true]
    exact ⟨weak_ro h.1, weakL_ro h.2⟩
end

/-- A result, for the caller. -/
def Gives (H : Heap) (v r : V) : Prop :=
  (∃ n v', v'.ro = true ∧ (lend n H [v]).2 = [v'] ∧ r = v'.weak) ∨
  (∃ n, r.ro = true ∧ (lend n H [v]).2 = [r]) ∨
  (∃ n k g m esz cs cs', v = .view k g 0 m ∧ H[k]? = some (.cells g esz true cs) ∧ roL (lend n H cs).2 = true ∧ (lend n H cs).1[k]? = some (.cells g esz true cs') ∧ r = .osl esz (lend n H cs).2 m) ∨
  (∃ n k g m esz cs cs' rest, v = .tup (.view k g 0 m :: rest) ∧ roL rest = true ∧ H[k]? = some (.cells g esz true cs) ∧ roL (lend n H cs).2 = true ∧ (lend n H cs).1[k]? = some (.cells g esz true cs') ∧ r = .tup (.osl esz (lend n H cs).2 m :: rest))

theorem res_of_ro {r : V} (h : r.ro = true) : r.res = true := by
  cases r with
  | tup vs =>
    simp only [V.res,List.all_eq_true]
    intro x hx
    have := roL_mem (by simpa [V.ro] using h) x hx
    cases x <;> first | exact this | (simp [V.ro] at this)
  | osl => simp [V.ro] at h
  | _ => exact h

/-- A slice of the run's own, by itself. -/
theorem own_res {ρ₀ : Nat → Nat} {w₀ : World} {c : Value} {n k g m esz : Nat} {cs cs' : List V} (hI : HInv P Out ρ H w) (ht : Tr ρ₀ [] w₀ ρ H w) (hc : Rel ρ H (BadIn Out ρ H) w (.view k g 0 m) c) (hk : H[k]? = some (.cells g esz true cs)) (hro : roL (lend n H cs).2 = true)
    (hk' : (lend n H cs).1[k]? = some (.cells g esz true cs')) :
    w₀.heap.size ≤ ρ k ∧ HInv P Out (fun _ => ρ k) [.cells 0 esz true (lend n H cs).2] w ∧
      Rel (fun _ => ρ k) [.cells 0 esz true (lend n H cs).2] (BadIn Out (fun _ => ρ k) [.cells 0 esz true (lend n H cs).2]) w (.view 0 0 0 m) c := by
  obtain ⟨arr, T, h1, h2, h3⟩ := hI.cells k _ _ _ _ hk
  have hkl := getElem?_lt hk
  obtain ⟨l1, l2, l3, l4⟩ := lend_rel n (vs := cs) (ca := arr.extract 0 cs.length) hI (by simp; omega) (fun i hi => by
    have := h3 i hi
    have e1 : (arr.extract 0 cs.length).getD i undef = arr.getD i undef := by
      simp [Array.getD, show i < arr.size by omega, show i < min cs.length arr.size by omega]
    rw [e1]; exact this)
  have hmut : Mut ρ (lend n H cs).1 (ρ k) := ⟨k, _, hk', rfl, rfl⟩
  have hsize : w₀.heap.size ≤ ρ k := by
    rcases Nat.lt_or_ge (ρ k) w₀.heap.size with hlt | h
    · obtain ⟨_, _, hh, _⟩ := ht.wrt (ρ k) hlt ⟨k, _, hk, rfl, rfl⟩
      simp at hh
    · exact h
  have hbad : ∀ B, BadIn Out (fun _ => ρ k) [.cells 0 esz true (lend n H cs).2] B → BadIn Out ρ (lend n H cs).1 B := by
    rintro B (h | ⟨j, o, hj, _, rfl⟩)
    · exact .inl h
    · exact .inr hmut
  have hcells : ∀ i (h : i < (lend n H cs).2.length), Rel (fun _ => ρ k) [.cells 0 esz true (lend n H cs).2] (BadIn Out (fun _ => ρ k) [.cells 0 esz true (lend n H cs).2]) w (lend n H cs).2[i] (arr.getD i undef) := by
    intro i hi
    have := l4 i hi
    have e1 : (arr.extract 0 cs.length).getD i undef = arr.getD i undef := by
      simp [Array.getD, show i < arr.size by omega, show i < min cs.length arr.size by omega]
    rw [e1] at this
    exact this.ro_mono (fun _ _ _ => rfl) (fun B _ h => hbad B h) (roL_get hro i hi)
  refine ⟨hsize, ?_, ?_⟩
  · refine ⟨hI.out, fun i j hi hj _ => ?_, fun _ _ => hI.lt k hkl, fun j g' esz' own' cs'' hj => ?_, fun j s p hj => ?_, fun j S ps e st pend hj => ?_, fun j es hj => ?_, ?_⟩
    · simp at hi hj; omega
    · have hj0 : j = 0 := by have := getElem?_lt hj; simpa using this
      subst hj0
      simp at hj
      obtain ⟨rfl, rfl, rfl, rfl⟩ := hj
      exact ⟨arr, T, h1, by omega, hcells⟩
    · have hj0 : j = 0 := by have := getElem?_lt hj; simpa using this
      subst hj0
      simp at hj
    · have hj0 : j = 0 := by have := getElem?_lt hj; simpa using this
      subst hj0
      simp at hj
    · have hj0 : j = 0 := by have := getElem?_lt hj; simpa using this
      subst hj0
      simp at hj
    · exact hI.base.same (Nat.le_refl _) (fun _ _ _ => rfl) (fun B _ h => by
        rcases h with h | ⟨j, o, hj, _, rfl⟩
        · exact .inl h
        · exact .inr ⟨k, _, hk, rfl, rfl⟩)
  · have hgen : genOf H k = g := by simp [genOf, hk, HObj.gen]
    have hesz : eszOf H k = esz := by simp [eszOf, hk, HObj.esz]
    cases hc with
    | view _ _ _ _ B cap a1 a2 a3 a4 =>
      obtain ⟨b1, b2⟩ := a3 hgen
      refine .view 0 0 0 m B cap (by simp) (Nat.zero_le _) (fun _ => ⟨b1, fun arr T fz h => ?_⟩) a4
      have := b2 arr T fz h
      rw [hesz] at this
      simpa [eszOf, HObj.esz] using this

theorem gives_res {ρ₀ : Nat → Nat} {w₀ : World} {v r : V} {c : Value} (hI : HInv P Out ρ H w) (ht : Tr ρ₀ [] w₀ ρ H w) (hc : Rel ρ H (BadIn Out ρ H) w v c) (hg : Gives H v r) : ResRel P Out w₀ w r c := by
  rcases hg with ⟨n, v', hro, hl, rfl⟩ | ⟨n, hro, hl⟩ | ⟨n, k, g, m, esz, cs, cs', rfl, hk, hro, hk', rfl⟩ | ⟨n, k, g, m, esz, cs, cs', rest, rfl, hrest, hk, hro, hk', rfl⟩
  · obtain ⟨l1, l2, l3, l4⟩ := lend_rel n (vs := [v]) (ca := #[c]) hI rfl (fun i hi => by
      have : i = 0 := by simpa using hi
      subst this; exact hc)
    have hrel := l4 0 (by rw [hl]; simp)
    have h0 : ((lend n H [v]).2)[0]'(by rw [hl]; simp) = v' := by simp [hl]
    rw [h0] at hrel
    have hrel := hrel.weak
    have hro := weak_ro hro
    refine ⟨res_of_ro hro, ρ, ?_, ?_, ?_⟩
    · rw [adopt_ro hro]
      exact ⟨hI.out, fun i j hi => absurd hi (Nat.not_lt_zero _), fun k hk => absurd hk (Nat.not_lt_zero _), fun k _ _ _ _ h => by simp at h, fun k _ _ h => by simp at h, fun k _ _ _ _ _ h => by simp at h, fun k _ h => by simp at h, hI.base.same (Nat.le_refl _) (fun _ _ _ => rfl) (fun B _ h => by
        rcases h with h | ⟨k, o, hk, _⟩
        · exact .inl h
        · simp at hk)⟩
    · rw [adopt_ro hro]
      intro k hk
      exact absurd hk (Nat.not_lt_zero _)
    · rw [adopt_ro hro]
      refine hrel.ro_mono (fun _ _ _ => rfl) ?_ hro
      rintro B _ (h | ⟨k, o, hk, _⟩)
      · exact .inl h
      · simp at hk
  · obtain ⟨l1, l2, l3, l4⟩ := lend_rel n (vs := [v]) (ca := #[c]) hI rfl (fun i hi => by
      have : i = 0 := by simpa using hi
      subst this; exact hc)
    have hrel := l4 0 (by rw [hl]; simp)
    have h0 : ((lend n H [v]).2)[0]'(by rw [hl]; simp) = r := by simp [hl]
    rw [h0] at hrel
    refine ⟨res_of_ro hro, ρ, ?_, ?_, ?_⟩
    · rw [adopt_ro hro]
      exact ⟨hI.out, fun i j hi => absurd hi (Nat.not_lt_zero _), fun k hk => absurd hk (Nat.not_lt_zero _), fun k _ _ _ _ h => by simp at h, fun k _ _ h => by simp at h, fun k _ _ _ _ _ h => by simp at h, fun k _ h => by simp at h, hI.base.same (Nat.le_refl _) (fun _ _ _ => rfl) (fun B _ h => by
        rcases h with h | ⟨k, o, hk, _⟩
        · exact .inl h
        · simp at hk)⟩
    · rw [adopt_ro hro]
      intro k hk
      exact absurd hk (Nat.not_lt_zero _)
    · rw [adopt_ro hro]
      refine hrel.ro_mono (fun _ _ _ => rfl) ?_ hro
      rintro B _ (h | ⟨k, o, hk, _⟩)
      · exact .inl h
      · simp at hk
  · obtain ⟨o1, o2, o3⟩ := own_res hI ht hc hk hro hk'
    exact ⟨hro, fun _ => ρ k, o2, fun _ _ => o1, o3⟩
  · cases hc with
    | tup _ arr h1 h2 =>
    obtain ⟨o1, o2, o3⟩ := own_res hI ht (h2 0 (by simp)) hk hro hk'
    have ha : adopt (.tup (.osl esz (lend n H cs).2 m :: rest)) [] = (.tup (.view 0 0 0 m :: rest), [.cells 0 esz true (lend n H cs).2]) := by
      simp only [adopt,adoptL,adopt1,adoptL_ro hrest,List.nil_append,List.length_nil]
    refine ⟨?_, fun _ => ρ k, ?_, fun _ _ => o1, ?_⟩
    · simp only [V.res,List.all_cons,Bool.and_eq_true,List.all_eq_true]
      refine ⟨hro, fun x hx => ?_⟩
      have := roL_mem hrest x hx
      cases x <;> first | exact this | (simp [V.ro] at this)
    · rw [ha]; exact o2
    · rw [ha]
      refine .tup _ arr h1 fun i hi => ?_
      cases i with
      | zero => exact o3
      | succ i =>
        have hi' : i < rest.length := by simpa using hi
        have := h2 (i + 1) (by simpa using hi')
        refine this.ro_mono (fun _ _ _ => rfl) ?_ (roL_get hrest i hi')
        rintro B _ (h | ⟨j, o, hj, _, rfl⟩)
        · exact .inl h
        · exact .inr ⟨k, _, hk, rfl, rfl⟩

/-- A body's run makes a call that hands back what it made or read. -/
theorem good_of_run (hmix : P.follows .mixedOrders = true) {f : FuncId} {cf : CF} {as : List V} {r : V} (hs : stripF P f = some cf) (hl : as.length ≤ cf.ntmps) (hr : run P cf.body (enterEnv as) [] (Done cf.res fun v H => Gives H v r)) :
    Good P f as r := by
  refine ⟨(stripF_inv hs).1, fun Bad w ca hbad hbase hca hrel => ?_⟩
  have hI : HInv P Bad (fun k => k) [] w := ⟨hbad, fun i j hi => absurd hi (Nat.not_lt_zero _), fun k hk => absurd hk (Nat.not_lt_zero _), fun k _ _ _ _ h => by simp at h, fun k _ _ h => by simp at h, fun k _ _ _ _ _ h => by simp at h, fun k _ h => by simp at h, hbase.same (Nat.le_refl _) (fun _ _ _ => rfl) (fun B _ h => by
    rcases h with h | ⟨k, o, hk, _⟩
    · exact h
    · simp at hk)⟩
  have hb : ∀ B, BadIn Bad (fun k => k) [] B → Bad B := by
    rintro B (h | ⟨k, o, hk, _⟩)
    · exact h
    · simp at hk
  have hbe : BadIn Bad (fun k => k) [] = Bad := funext fun B => propext ⟨hb B, .inl⟩
  refine (calls_of_run (Out := Bad) (ρ := fun k => k) hmix hs hl hr hI hca (fun i hi => by rw [hbe]; exact hrel i hi)).mono ?_
  rintro e w' ⟨c, v, H', ρ', rfl, ht, hI', hrel', hg⟩
  refine ⟨c, rfl, ⟨ht.os, ht.tape, ht.output, ht.size, fun B hB => ht.keep B hB ?_⟩, gives_res hI' ht hrel' hg⟩
  rintro ⟨k, o, hk, _⟩
  simp at hk

end
end Fe
namespace Fe
open Go Go.RowKit

/-! ### Running, with what is left to do as data -/
inductive Fr where
  | seq (c : C)
  | block (id : Nat)

def Fr.cont (P : Program) : List Fr → Cont → Cont
  | [], K => K
  | .seq c :: S, K => Cont.then (fun e H => run P c e H (Fr.cont P S K)) (Fr.cont P S K)
  | .block id :: S, K => Cont.block id (Fr.cont P S K)

def go (P : Program) (c : C) (e : Env) (H : Heap) (S : List Fr) (K : Cont) : Prop := run P c e H (Fr.cont P S K)
def out (P : Program) (x : Ex) (e : Env) (H : Heap) (S : List Fr) (K : Cont) : Prop := Fr.cont P S K x e H
def ops (P : Program) (lim : Option Nat) (os : List Op) (e : Env) (H : Heap) (S : List Fr) (K : Cont) : Prop := runOps P lim os e H (Fr.cont P S K .normal)
def stp (P : Program) (r : Option (V × Heap)) (d : Option Nat) (lim : Option Nat) (os : List Op) (e : Env) (S : List Fr) (K : Cont) : Prop :=
  match r with
  | some p => ops P lim os (e.put d p.1) p.2 S K
  | none => False
def grd (P : Program) (v : V) (b : Bool) (d : Option Nat) (o : OC) (lim : Option Nat) (os : List Op) (e : Env) (H : Heap) (S : List Fr) (K : Cont) : Prop :=
  match v with
  | .bool t => if t = b then ops P lim (⟨d, o, none⟩ :: os) e H S K else ops P lim os (e.put d (.tup [])) H S K
  | .tup _ => ops P lim os (e.put d (.tup [])) H S K
  | _ => False
def cnd (P : Program) (v : V) (a b : C) (e : Env) (H : Heap) (S : List Fr) (K : Cont) : Prop :=
  match v with
  | .bool t => (t = true → go P a e H S K) ∧ (t = false → go P b e H S K)
  | .anyb => go P a e H S K ∧ go P b e H S K
  | _ => False
def calP (P : Program) (f : V) (as : List V) (d : Option Nat) (lim : Option Nat) (os : List Op) (e : Env) (H : Heap) (S : List Fr) (K : Cont) : Prop :=
  callP P f as H fun r H' => ops P lim os (e.put d r) H' S K
def calD (P : Program) (f : V) (as : List V) (d : Option Nat) (lim : Option Nat) (os : List Op) (e : Env) (H : Heap) (S : List Fr) (K : Cont) : Prop :=
  callD P f as H fun r H' => ops P lim os (e.put d r) H' S K
def calC (P : Program) (f : V) (as : List V) (d : Option Nat) (lim : Option Nat) (os : List Op) (e : Env) (H : Heap) (S : List Fr) (K : Cont) : Prop :=
  callC P f as H fun r H' => ops P lim os (e.put d r) H' S K

def rng (P : Program) (f : V) (ps : List Nat) (a c : C) (e : Env) (H : Heap) (S : List Fr) (K : Cont) : Prop :=
  (∃ g fi cp, f = .fn g fi cp) ∧ callP P f [.yld H.length] (H ++ [.loop (Strp P a c) ps e .ready none]) fun _ H' => afterRange H.length (Strp P a c) ps e (Fr.cont P S K) H'

def evs (e : Env) (as : List X) : List V := as.map (·.ev e)

section
variable {P : Program} {e : Env} {H : Heap} {S : List Fr} {K : Cont} {lim : Option Nat} {os : List Op} {d : Option Nat} {a b c : C}

theorem run_go {cf : CF} {as : List V} {K : Cont} : run P cf.body (enterEnv as) H K = go P cf.body (enterEnv as) H [] K := rfl
/-- A body's run, at whatever frame holds the arguments. -/
theorem good_go (hmix : P.follows .mixedOrders = true) {f : FuncId} {cf : CF} {as : List V} {r : V} (hs : stripF P f = some cf) (hl : as.length ≤ cf.ntmps)
    (hr : ∀ e : Env, (∀ i, e i = as.getD i .und) → go P cf.body e [] [] (Done cf.res fun v H => Gives H v r)) : Good P f as r :=
  good_of_run hmix hs hl (hr (enterEnv as) fun _ => rfl)
theorem call2_go (hmix : P.follows .mixedOrders = true) {f : FuncId} {cf : CF} {as : List V} {k : V → Heap → Prop} (hs : stripF P f = some cf) (hl : as.length ≤ cf.ntmps)
    (hr : ∀ e : Env, (∀ i, e i = as.getD i .und) → go P cf.body e H [] (Done cf.res k)) : Call2 P f as H k :=
  call2_of_run hmix hs hl (hr (enterEnv as) fun _ => rfl)
theorem set_at {t d : Nat} {v : V} : (e.set d v) t = if t = d then v else e t := rfl
theorem ev_t {n : Nat} : (X.t n).ev e = e n := rfl
theorem ev_c {v : V} : (X.c v).ev e = v := rfl
theorem evs_nil : evs e [] = [] := rfl
theorem evs_cons {x : X} {l : List X} : evs e (x :: l) = x.ev e :: evs e l := rfl
theorem parts_nil : evParts e [] = [] := rfl
theorem parts_cons {a b : Nat} {x : X} {l : List (Nat × Nat × X)} : evParts e ((a, b, x) :: l) = (a, b, x.ev e) :: evParts e l := rfl
theorem go_skip : go P .skip e H S K = out P .normal e H S K := rfl
theorem go_regf : go P (.region false os) e H S K = ops P none os e H S K := rfl
theorem go_regt : go P (.region true os) e H S K = ops P (some H.length) os e H S K := rfl
theorem go_seq : go P (.seq a b) e H S K = go P a e H (.seq b :: S) K := rfl
theorem go_block {id : Nat} : go P (.block id c) e H S K = go P c e H (.block id :: S) K := rfl
theorem go_exit {id : Nat} : go P (.exit id) e H S K = out P (.exit id) e H S K := rfl
theorem go_ret : go P .ret e H S K = out P .ret e H S K := rfl
theorem go_range {x : X} {ps : List Nat} : go P (.rangef x ps a b) e H S K = rng P (x.ev e) ps a b e H S K := rfl
theorem go_cond {x : X} : go P (.cond x a b) e H S K = cnd P (x.ev e) a b e H S K := by
  simp only [go,run,cnd]
  cases x.ev e <;> rfl
theorem cnd_t : cnd P (.bool true) a b e H S K = go P a e H S K := by simp [cnd]
theorem cnd_f : cnd P (.bool false) a b e H S K = go P b e H S K := by simp [cnd]
theorem cnd_any : cnd P .anyb a b e H S K = (go P a e H S K ∧ go P b e H S K) := rfl
theorem out_nil {x : Ex} : out P x e H [] K = K x e H := rfl
theorem out_seq : out P .normal e H (.seq c :: S) K = go P c e H S K := rfl
theorem out_seqx {id : Nat} : out P (.exit id) e H (.seq c :: S) K = out P (.exit id) e H S K := rfl
theorem out_seqr : out P .ret e H (.seq c :: S) K = out P .ret e H S K := rfl
theorem out_blk {id : Nat} : out P .normal e H (.block id :: S) K = out P .normal e H S K := rfl
theorem out_blkr {id : Nat} : out P .ret e H (.block id :: S) K = out P .ret e H S K := rfl
theorem out_blkx {i id : Nat} : out P (.exit i) e H (.block id :: S) K = if i = id then out P .normal e H S K else out P (.exit i) e H S K := rfl
theorem ops_nil : ops P lim [] e H S K = out P .normal e H S K := rfl
theorem ops_op {o : O} : ops P lim (⟨d, .op o, none⟩ :: os) e H S K = stp P (stepO (lim.getD H.length) o e H) d lim os e S K := by
  simp only [ops,runOps,wantedV,stp]
  cases stepO (lim.getD H.length) o e H <;> rfl
theorem ops_opf {o : O} : ops P none (⟨d, .op o, none⟩ :: os) e H S K = stp P (stepO H.length o e H) d none os e S K := ops_op
theorem ops_opt {n : Nat} {o : O} : ops P (some n) (⟨d, .op o, none⟩ :: os) e H S K = stp P (stepO n o e H) d (some n) os e S K := ops_op
theorem ops_grd {o : OC} {t : Nat} {w : Bool} : ops P lim (⟨d, o, some (t, w)⟩ :: os) e H S K = grd P (e t) w d o lim os e H S K := by
  simp only [ops,runOps,wantedV,grd]
  generalize e t = v
  cases v with
  | bool t => cases t <;> cases w <;> rfl
  | _ => rfl
theorem ops_call {f : X} {as : List X} : ops P lim (⟨d, .call false f as, none⟩ :: os) e H S K = calP P (f.ev e) (evs e as) d lim os e H S K := rfl
theorem ops_calld {f : X} {as : List X} : ops P lim (⟨d, .call true f as, none⟩ :: os) e H S K = calD P (f.ev e) (evs e as) d lim os e H S K := rfl
theorem ops_callc {f : X} {as : List X} : ops P lim (⟨d, .callc f as, none⟩ :: os) e H S K = calC P (f.ev e) (evs e as) d lim os e H S K := rfl
theorem stp_some {v : V} : stp P (some (v, H)) d lim os e S K = ops P lim os (e.put d v) H S K := rfl
theorem grd_y {t w : Bool} {o : OC} (h : t = w) : grd P (.bool t) w d o lim os e H S K = ops P lim (⟨d, o, none⟩ :: os) e H S K := by simp [grd, h]
theorem grd_n {t w : Bool} {o : OC} (h : t ≠ w) : grd P (.bool t) w d o lim os e H S K = ops P lim os (e.put d (.tup [])) H S K := by simp [grd, h]
theorem grd_tt {o : OC} : grd P (.bool true) true d o lim os e H S K = ops P lim (⟨d, o, none⟩ :: os) e H S K := grd_y rfl
theorem grd_ff {o : OC} : grd P (.bool false) false d o lim os e H S K = ops P lim (⟨d, o, none⟩ :: os) e H S K := grd_y rfl
theorem grd_tf {o : OC} : grd P (.bool true) false d o lim os e H S K = ops P lim os (e.put d (.tup [])) H S K := grd_n (by decide)
theorem grd_u {vs : List V} {w : Bool} {o : OC} : grd P (.tup vs) w d o lim os e H S K = ops P lim os (e.put d (.tup [])) H S K := rfl
theorem grd_ft {o : OC} : grd P (.bool false) true d o lim os e H S K = ops P lim os (e.put d (.tup [])) H S K := grd_n (by decide)

/-- A loop, by what holds at its head. -/
theorem go_loop (I : Nat → Env → Heap → Prop) (n : Nat) (h : I n e H)
    (round : ∀ n e H, I n e H → go P c e H [] (Cont.then (fun e' H' => ∃ m, m < n ∧ I m e' H') (Fr.cont P S K))) : go P (.loop c) e H S K := ⟨I, n, h, round⟩
/-- What is behind a loop's round. -/
theorem then_n {k : Env → Heap → Prop} : Cont.then k K .normal e H = k e H := rfl
theorem then_x {k : Env → Heap → Prop} {id : Nat} : Cont.then k K (.exit id) e H = K (.exit id) e H := rfl
theorem then_r {k : Env → Heap → Prop} : Cont.then k K .ret e H = K .ret e H := rfl
theorem cont_out {x : Ex} : Fr.cont P S K x e H = out P x e H S K := rfl

/-- A call whose contract sees no heap: arguments that hang on none. -/
theorem calP_ro {f : FuncId} {as : List V} {r : V} (hro : roL as = true) (hg : Good P f as r) (hr : r.ro = true) (h : ops P lim os (e.put d r) H S K) : calP P (.fn f [] []) as d lim os e H S K := by
  have ha : [] ++ as ++ [] = as := by simp
  refine .inl (callC_callD ⟨r, ?_, hr, ?_, h⟩)
  · rw [ha]; exact hro
  · rw [ha]; exact hg
/-- One whose arguments are lent. -/
theorem calP_lend (n : Nat) {f : FuncId} {as as' : List V} {r : V} {H' : Heap} (hl : lend n H as = (H', as')) (hro : roL as' = true) (hg : Good P f as' r) (h : ops P lim os (e.put d (adopt r (if r.loose = true then H else H')).1) (adopt r (if r.loose = true then H else H')).2 S K) :
    calP P (.fn f [] []) as d lim os e H S K := by
  have ha : [] ++ as ++ [] = as := by simp
  refine .inl ⟨n, r, ?_, ?_, ?_⟩
  · rw [ha, hl]; exact hro
  · rw [ha, hl]; exact hg
  · rw [ha, hl]; exact h
/-- One whose arguments are lent, and whose result hangs on no heap. -/
theorem calP_lr (n : Nat) {f : FuncId} {as as' : List V} {r : V} {H' : Heap} (hl : lend n H as = (H', as')) (hro : roL as' = true) (hg : Good P f as' r) (hr : r.ro = true) (h : ∀ H'', (H'' = H ∨ H'' = H') → ops P lim os (e.put d r) H'' S K) :
    calP P (.fn f [] []) as d lim os e H S K := by
  refine calP_lend n hl hro hg ?_
  rw [adopt_ro hr]
  refine h _ ?_
  split
  · exact .inl rfl
  · exact .inr rfl
/-- A call at the heap. -/
theorem calP_heap {f : FuncId} {as : List V} (h : Call2 P f as H fun r H' => ops P lim os (e.put d r) H' S K) : calP P (.fn f [] []) as d lim os e H S K := by
  refine .inr ?_
  have ha : [] ++ as ++ [] = as := by simp
  show Call2 P f ([] ++ as ++ []) H _
  rw [ha]
  exact h

/-- A range over a function, by its function's contract at the heap. -/
theorem rng_heap {f : FuncId} {cp : List V} {ps : List Nat} (h : Call2 P f (.yld H.length :: cp) (H ++ [.loop (Strp P a c) ps e .ready none]) fun _ H' => afterRange H.length (Strp P a c) ps e (Fr.cont P S K) H') : rng P (.fn f [] cp) ps a c e H S K := by
  refine ⟨⟨_, _, _, rfl⟩, .inr ?_⟩
  show Call2 P f ([] ++ [.yld H.length] ++ cp) _ _
  exact h
theorem after_n {k : Nat} {ps : List Nat} {T : Nat → List Nat → Go.Code → Go.Code → Prop} {st : LoopState} (hk : H[k]? = some (.loop T ps e st none)) (hs : st ≠ .busy) (h : out P .normal e (H.set k (.loop T ps e .exhausted none)) S K) : afterRange k T ps e (Fr.cont P S K) H :=
  ⟨st, none, hk, hs, h⟩
theorem after_r {k : Nat} {ps : List Nat} {T : Nat → List Nat → Go.Code → Go.Code → Prop} {st : LoopState} (hk : H[k]? = some (.loop T ps e st (some .ret))) (hs : st ≠ .busy) (h : out P .ret e (H.set k (.loop T ps e .exhausted (some .ret))) S K) : afterRange k T ps e (Fr.cont P S K) H :=
  ⟨st, _, hk, hs, h⟩
theorem calP_yld {k : Nat} {as : List V} (h : Yld P k as H fun r H' => ops P lim os (e.put d r) H' S K) : calP P (.yld k) as d lim os e H S K := .inr h
theorem yld_mono {k : Nat} {as : List V} {k1 k2 : V → Heap → Prop} (h : Yld P k as H k1) (hk : ∀ r H', k1 r H' → k2 r H') : Yld P k as H k2 :=
  (callP_mono (fv := .yld k) (.inr h) fun r H' _ => hk r H').resolve_left id
theorem call2_mono {f : FuncId} {as : List V} {k1 k2 : V → Heap → Prop} (h : Call2 P f as H k1) (hk : ∀ r H', k1 r H' → k2 r H') : Call2 P f as H k2 := by
  refine ⟨h.1, fun Out ρ w ca hI hs hr => (h.2 Out ρ w ca hI hs hr).mono ?_⟩
  rintro e w' ⟨c, r, H', ρ', h1, t, h2, h3, h4⟩
  exact ⟨c, r, H', ρ', h1, t, h2, h3, hk r H' h4⟩
/-- A round, run. -/
theorem yld_go (hmix : P.follows .mixedOrders = true) {k : Nat} {as : List V} {ps : List Nat} {pend : Option Go.Code} {k1 : V → Heap → Prop} (hk : H[k]? = some (.loop (Strp P a c) ps e .ready pend)) (hl : as.length = ps.length)
    (hr : ∀ e₀, (∀ i, e₀ i = setL e ps as i) → go P a e₀ H [] fun x e' H1 => x = .normal ∧ ∃ pend', H1[k]? = some (.loop (Strp P a c) ps e .ready pend') ∧
      go P c e' (H1.set k (.loop (Strp P a c) ps e .busy pend')) [] (roundEnd k (Strp P a c) ps e k1)) : Yld P k as H k1 :=
  yld_of_run hmix hk hl (hr _ fun _ => rfl)

/-! ### Numbers within bounds -/
theorem wr_i64 {n : Int} (h : -9223372036854775808 ≤ n ∧ n ≤ 9223372036854775807) : IntKind.i64.wrap n = n := by
  simp only [IntKind.wrap,IntKind.bits,IntKind.signed]
  simp
  omega
theorem wr_u64 (n : Int) : IntKind.u64.wrap n = n % 18446744073709551616 := by
  simp [IntKind.wrap, IntKind.bits, IntKind.signed]
theorem wr_u32 (n : Int) : IntKind.u32.wrap n = n % 4294967296 := by
  simp [IntKind.wrap, IntKind.bits, IntKind.signed]
theorem wr_u8 (n : Int) : IntKind.u8.wrap n = n % 256 := by
  simp [IntKind.wrap, IntKind.bits, IntKind.signed]

theorem ibeq_f {a b : Int} (h : a ≠ b) : (a == b) = false := by simpa using h
theorem ibne_f {a b : Int} (h : a = b) : (a != b) = false := by simpa using h
theorem ibne_t {a b : Int} (h : a ≠ b) : (a != b) = true := by simpa using h
theorem ibeq_t {a b : Int} (h : a = b) : (a == b) = true := by simpa using h
theorem resultV_mov {x : X} : resultV (.mov x) e H = some (x.ev e) := rfl
theorem resultV_load {g : Bool} {n : Nat} {x : X} : resultV (.load g n x) e H = loadV H.length g n H (x.ev e) := rfl
theorem done1 {x : X} {k : V → Heap → Prop} : Done [.mov x] k .ret e H = k (x.ev e) H := by simp [Done, resultsV, resultV_mov]
theorem done0 {k : V → Heap → Prop} : Done [] k .ret e H = k (.tup []) H := by simp [Done, resultsV]
theorem done0n {k : V → Heap → Prop} : Done [] k .normal e H = k (.tup []) H := by simp [Done, resultsV]
theorem done2 {x y : X} {k : V → Heap → Prop} : Done [.mov x, .mov y] k .ret e H = k (.tup [x.ev e, y.ev e]) H := by simp [Done, resultsV, resultV_mov]
theorem done3 {x y z : X} {k : V → Heap → Prop} : Done [.mov x, .mov y, .mov z] k .ret e H = k (.tup [x.ev e, y.ev e, z.ev e]) H := by simp [Done, resultsV, resultV_mov]
theorem done4 {x y z u : X} {k : V → Heap → Prop} : Done [.mov x, .mov y, .mov z, .mov u] k .ret e H = k (.tup [x.ev e, y.ev e, z.ev e, u.ev e]) H := by simp [Done, resultsV, resultV_mov]
def onSome (o : Option V) (k : V → Prop) : Prop := match o with
  | some v => k v
  | none => False
theorem onSome_some {v : V} {k : V → Prop} : onSome (some v) k = k v := rfl
theorem done_l {g : Bool} {n : Nat} {x : X} {k : V → Heap → Prop} : Done [.load g n x] k .ret e H = onSome (loadV H.length g n H (x.ev e)) fun v => k v H := by
  simp only [Done,resultsV,List.mapM_cons,List.mapM_nil,resultV_load]
  cases loadV H.length g n H (x.ev e) <;> simp [onSome]
theorem done_lm {g : Bool} {n : Nat} {x y : X} {k : V → Heap → Prop} : Done [.load g n x, .mov y] k .ret e H = onSome (loadV H.length g n H (x.ev e)) fun v => k (.tup [v, y.ev e]) H := by
  simp only [Done,resultsV,List.mapM_cons,List.mapM_nil,resultV_load,resultV_mov]
  cases loadV H.length g n H (x.ev e) <;> simp [onSome]
theorem done_lll {g g' g'' : Bool} {n n' n'' : Nat} {x y z : X} {k : V → Heap → Prop} : Done [.load g n x, .load g' n' y, .load g'' n'' z] k .ret e H =
    onSome (loadV H.length g n H (x.ev e)) fun u => onSome (loadV H.length g' n' H (y.ev e)) fun v => onSome (loadV H.length g'' n'' H (z.ev e)) fun w => k (.tup [u, v, w]) H := by
  simp only [Done,resultsV,List.mapM_cons,List.mapM_nil,resultV_load]
  cases loadV H.length g n H (x.ev e) <;> cases loadV H.length g' n' H (y.ev e) <;> cases loadV H.length g'' n'' H (z.ev e) <;> simp [onSome]
theorem gives_ro {v : V} (h : v.ro = true) : Gives H v v := .inr (.inl ⟨0, h, rfl⟩)
theorem gives_eq {v r : V} (h : v.ro = true) (he : r = v.weak) : Gives H v r := .inl ⟨0, v, h, rfl, he⟩
theorem gives_lend (n : Nat) {v v' r : V} (hl : (lend n H [v]).2 = [v']) (h : v'.ro = true) (he : r = v'.weak) : Gives H v r := .inl ⟨n, v', h, hl, he⟩
theorem gives_own (n : Nat) {k g m esz : Nat} {cs cs' : List V} {r : V} (h1 : H[k]? = some (.cells g esz true cs)) (h2 : roL (lend n H cs).2 = true) (h3 : (lend n H cs).1[k]? = some (.cells g esz true cs')) (h4 : r = .osl esz (lend n H cs).2 m) :
    Gives H (.view k g 0 m) r := .inr (.inr (.inl ⟨n, k, g, m, esz, cs, cs', rfl, h1, h2, h3, h4⟩))
end
end Fe
namespace Fe
open Go Go.RowKit

/-! ### Numbers that are not below 0 -/
theorem w32 (n : Nat) : IntKind.u32.wrap (n : Int) = ((n % 4294967296 : Nat) : Int) := by rw [wr_u32]; omega
theorem w32' {n : Int} (h : 0 ≤ n ∧ n < 4294967296) : IntKind.u32.wrap n = n := by rw [wr_u32]; omega
theorem w64' {n : Int} (h : 0 ≤ n ∧ n < 18446744073709551616) : IntKind.u64.wrap n = n := by rw [wr_u64]; omega
theorem w8' {n : Int} (h : 0 ≤ n ∧ n < 256) : IntKind.u8.wrap n = n := by rw [wr_u8]; omega

-- Not by 'rfl': a step of simp's that is one is the kernel's to reckon, number by number.
theorem tdiv_c (a b : Nat) : (a : Int).tdiv (b : Int) = ((a / b : Nat) : Int) := by rw [Int.ofNat_tdiv]
theorem tmod_c (a b : Nat) : (a : Int).tmod (b : Int) = ((a % b : Nat) : Int) := by rw [Int.ofNat_tmod]
theorem add_c (a b : Nat) : (a : Int) + (b : Int) = ((a + b : Nat) : Int) := by omega
theorem mul_c (a b : Nat) : (a : Int) * (b : Int) = ((a * b : Nat) : Int) := by rw [Int.natCast_mul]
theorem add_one_c (a : Nat) : (a : Int) + 1 = ((a + 1 : Nat) : Int) := by omega
theorem toNat_c (a : Nat) : (a : Int).toNat = a := by omega
theorem sub_c (a b : Nat) (h : b ≤ a) : (a : Int) - (b : Int) = ((a - b : Nat) : Int) := by omega
theorem sub_two_c (a : Nat) (h : 2 ≤ a) : (a : Int) - 2 = ((a - 2 : Nat) : Int) := by omega
theorem sub_one_c (a : Nat) (h : 1 ≤ a) : (a : Int) - 1 = ((a - 1 : Nat) : Int) := by omega
theorem sgn_u32 : IntKind.u32.signed = false := rfl
theorem mins' {s : Nat} (h : s ≤ 64) : min s IntKind.u64.bits = s := by simp [IntKind.bits]; omega
theorem mins32 {s : Nat} (h : s ≤ 32) : min s IntKind.u32.bits = s := by simp [IntKind.bits]; omega
theorem shl_c (a s : Nat) : (a : Int) * 2 ^ s = ((a * 2 ^ s : Nat) : Int) := by simp
theorem shr_c (a s : Nat) : (a : Int).fdiv (2 ^ s) = ((a / 2 ^ s : Nat) : Int) := by
  have h : (0 : Int) ≤ 2 ^ s := Int.le_of_lt (Int.pow_pos (by decide))
  rw [Int.fdiv_eq_ediv_of_nonneg _ h]
  simp

theorem ofInt_nat (w a : Nat) : BitVec.ofInt w (a : Int) = BitVec.ofNat w a := BitVec.ofInt_natCast w a
theorem or64n {a b : Nat} (ha : a < 18446744073709551616) (hb : b < 18446744073709551616) : (BitVec.ofInt IntKind.u64.bits (a : Int) ||| BitVec.ofInt IntKind.u64.bits (b : Int)).toNat = a ||| b := by
  rw [ofInt_nat, ofInt_nat, BitVec.toNat_or, BitVec.toNat_ofNat, BitVec.toNat_ofNat]
  have e : IntKind.u64.bits = 64 := rfl
  rw [e, Nat.mod_eq_of_lt (by omega : a < 2 ^ 64), Nat.mod_eq_of_lt (by omega : b < 2 ^ 64)]
theorem or32n {a b : Nat} (ha : a < 4294967296) (hb : b < 4294967296) : (BitVec.ofInt IntKind.u32.bits (a : Int) ||| BitVec.ofInt IntKind.u32.bits (b : Int)).toNat = a ||| b := by
  rw [ofInt_nat, ofInt_nat, BitVec.toNat_or, BitVec.toNat_ofNat, BitVec.toNat_ofNat]
  have e : IntKind.u32.bits = 32 := rfl
  rw [e, Nat.mod_eq_of_lt (by omega : a < 2 ^ 32), Nat.mod_eq_of_lt (by omega : b < 2 ^ 32)]
theorem or_high {a b : Nat} (hb : b < 4294967296) : a * 4294967296 ||| b = a * 4294967296 + b := by
  show a * 2 ^ 32 ||| b = _
  have := Nat.shiftLeft_add_eq_or_of_lt (i := 32) (b := b) (by omega) a
  rw [Nat.shiftLeft_eq] at this
  omega
theorem or_high' {a b k : Nat} (hb : b < 2 ^ k) : a * 2 ^ k ||| b = a * 2 ^ k + b := by
  have := Nat.shiftLeft_add_eq_or_of_lt (i := k) (b := b) hb a
  rw [Nat.shiftLeft_eq] at this
  exact this.symm

/-- The borrow of a subtraction of limbs. -/
theorem borrow_bit (x y : BitVec 32) (b : Nat) (hb : b ≤ 1) (d : BitVec 32) (hd : d = x - y - BitVec.ofNat 32 b) :
    (((~~~x &&& y) ||| (~~~(x ^^^ y) &&& d)).toNat / 2 ^ 31) = if x.toNat < y.toNat + b then 1 else 0 := by
  have hm : ∀ z : BitVec 32, z.toNat / 2 ^ 31 = if z.msb = true then 1 else 0 := by
    intro z
    have := z.isLt
    rw [BitVec.msb_eq_decide]
    simp only [decide_eq_true_eq]
    split <;> omega
  rw [hm]
  have hx := x.isLt
  have hy := y.isLt
  have hdn : d.toNat = (x.toNat + (2 ^ 32 - y.toNat) + (2 ^ 32 - b)) % 2 ^ 32 := by
    rw [hd, BitVec.toNat_sub, BitVec.toNat_sub, BitVec.toNat_ofNat]
    have : b % 2 ^ 32 = b := Nat.mod_eq_of_lt (by omega)
    rw [this]
    omega
  simp only [BitVec.msb_or,BitVec.msb_and,BitVec.msb_not,BitVec.msb_xor]
  have e1 := BitVec.msb_eq_decide x
  have e2 := BitVec.msb_eq_decide y
  have e3 := BitVec.msb_eq_decide d
  rw [e1, e2, e3]
  by_cases p : 2 ^ 31 ≤ x.toNat <;> by_cases q : 2 ^ 31 ≤ y.toNat <;> by_cases r : 2 ^ 31 ≤ d.toNat <;> simp [p, q, r] <;> omega

theorem wbv32 (u : BitVec 32) : IntKind.u32.wrap (u.toNat : Int) = (u.toNat : Int) := by
  rw [w32, Nat.mod_eq_of_lt]; exact u.isLt
theorem nat_bv {a : Nat} (ha : a < 4294967296) : (BitVec.ofNat 32 a).toNat = a := by
  rw [BitVec.toNat_ofNat, Nat.mod_eq_of_lt]; omega

/-- An operation without a guard. -/
def oQ (d : Nat) (x : O) : Op := ⟨some d, .op x, none⟩
/-! ### The rules of the runs, together -/
theorem ZD : (type_of% @go_skip) ∧ (type_of% @go_regf) ∧ (type_of% @go_regt) ∧ (type_of% @go_seq) ∧ (type_of% @go_block) ∧ (type_of% @go_exit) ∧ (type_of% @go_ret) ∧ (type_of% @go_cond) ∧ (type_of% @go_range) ∧ (type_of% @cnd_t) ∧ (type_of% @cnd_f) ∧ (type_of% @out_nil) ∧ (type_of% @out_seq) ∧ (type_of% @out_seqx) ∧ (type_of% @out_seqr) ∧ (type_of% @out_blk) ∧ (type_of% @out_blkr) ∧ (type_of% @out_blkx) ∧ (type_of% @ops_nil) ∧ (type_of% @ops_opf) ∧ (type_of% @ops_opt) ∧ (type_of% @ops_grd) ∧ (type_of% @ops_call) ∧ (type_of% @ops_calld) ∧ (type_of% @ops_callc) ∧ (type_of% @then_n) ∧ (type_of% @then_x) ∧ (type_of% @then_r) ∧ (type_of% @cont_out) ∧ (type_of% @ev_t) ∧ (type_of% @ev_c) ∧ (type_of% @evs_nil) ∧ (type_of% @evs_cons) ∧ (type_of% @parts_nil) ∧ (type_of% @parts_cons) ∧ (type_of% @set_at) ∧ (type_of% @done0) ∧ (type_of% @done0n) ∧ (type_of% @done1) ∧ (type_of% @done2) ∧ (type_of% @done3) ∧ (type_of% @done4) ∧ (type_of% @done_l) ∧ (type_of% @done_lm) ∧ (type_of% @done_lll) := ⟨@go_skip, @go_regf, @go_regt, @go_seq, @go_block, @go_exit, @go_ret, @go_cond, @go_range, @cnd_t, @cnd_f, @out_nil, @out_seq, @out_seqx, @out_seqr, @out_blk, @out_blkr, @out_blkx, @ops_nil, @ops_opf, @ops_opt, @ops_grd, @ops_call, @ops_calld, @ops_callc, @then_n, @then_x, @then_r, @cont_out, @ev_t, @ev_c, @evs_nil, @evs_cons, @parts_nil, @parts_cons, @set_at, @done0, @done0n, @done1, @done2, @done3, @done4, @done_l, @done_lm, @done_lll⟩
theorem ZP : (type_of% @stp_some) ∧ (type_of% @grd_tt) ∧ (type_of% @grd_ff) ∧ (type_of% @grd_tf) ∧ (type_of% @grd_ft) ∧ (type_of% @grd_u) ∧ (type_of% @cnd_any) ∧ (type_of% @List.map_cons.{0,0}) ∧ (type_of% @List.map_nil.{0,0}) ∧ (type_of% @Option.map_some.{0,0}) ∧ (type_of% @Option.bind_some.{0,0}) ∧ (type_of% @wr_i64) ∧ (type_of% @w64') ∧ (type_of% @w32') ∧ (type_of% @w8') ∧ (type_of% @mins') ∧ (type_of% @mins32) ∧ (type_of% @or64n) ∧ (type_of% @or32n) ∧ (type_of% @or_high) ∧ (type_of% @List.all_cons.{0}) ∧ (type_of% @List.all_nil.{0}) ∧ (type_of% @List.getElem?_cons_zero.{0}) ∧ (type_of% @List.getElem?_cons_succ.{0}) ∧ (type_of% @List.set_cons_zero.{0}) ∧ (type_of% @List.set_cons_succ.{0}) ∧ (type_of% @Bool.not_true) ∧ (type_of% @Bool.not_false) ∧ (type_of% @Bool.false_eq_true) ∧ (type_of% @onSome_some) ∧ (type_of% @Option.isNone_some.{0}) ∧ (type_of% @Option.isNone_none.{0}) ∧ (type_of% @Option.isSome_some.{0}) ∧ (type_of% @Option.isSome_none.{0}) ∧ (type_of% @true_and) ∧ (type_of% @and_true) ∧ (type_of% @false_and) ∧ (type_of% @and_false) ∧ (type_of% @false_imp_iff) ∧ (type_of% @true_imp_iff) ∧ (type_of% @Bool.and_false) ∧ (type_of% @Bool.and_true) ∧ (type_of% @Bool.or_true) ∧ (type_of% @Bool.or_false) ∧ (type_of% @Bool.true_and) ∧ (type_of% @Bool.false_and) ∧ (type_of% @Bool.true_or) ∧ (type_of% @Bool.false_or) ∧ (type_of% @decide_eq_true) ∧ (type_of% @decide_eq_false) ∧ (type_of% @ibeq_t) ∧ (type_of% @ibeq_f) ∧ (type_of% @ibne_t) ∧ (type_of% @ibne_f) ∧ (type_of% @beq_self_eq_true.{0}) ∧ (type_of% @Nat.zero_add) ∧ (type_of% @Nat.add_zero) ∧ (type_of% @Nat.mul_one) ∧ (type_of% @toNat_c) ∧ (type_of% @add_c) ∧ (type_of% @add_one_c) ∧ (type_of% @List.nil_append.{0}) ∧ (type_of% @List.cons_append.{0}) ∧ (type_of% @List.getD_cons_zero.{0}) ∧ (type_of% @List.getD_cons_succ.{0}) ∧ (type_of% @List.getD_nil.{0}) ∧ (type_of% @List.length_nil.{0}) ∧ (type_of% @List.length_cons.{0}) ∧ (type_of% @List.length_append.{0}) ∧ (type_of% @List.length_map.{0,0}) ∧ (type_of% @List.isEmpty_nil.{0}) ∧ (type_of% @List.isEmpty_cons.{0}) := ⟨@stp_some, @grd_tt, @grd_ff, @grd_tf, @grd_ft, @grd_u, @cnd_any, @List.map_cons.{0,0}, @List.map_nil.{0,0}, @Option.map_some.{0,0}, @Option.bind_some.{0,0}, @wr_i64, @w64', @w32', @w8', @mins', @mins32, @or64n, @or32n, @or_high, @List.all_cons.{0}, @List.all_nil.{0}, @List.getElem?_cons_zero.{0}, @List.getElem?_cons_succ.{0}, @List.set_cons_zero.{0}, @List.set_cons_succ.{0}, @Bool.not_true, @Bool.not_false, @Bool.false_eq_true, @onSome_some, @Option.isNone_some.{0}, @Option.isNone_none.{0}, @Option.isSome_some.{0}, @Option.isSome_none.{0}, @true_and, @and_true, @false_and, @and_false, @false_imp_iff, @true_imp_iff, @Bool.and_false, @Bool.and_true, @Bool.or_true, @Bool.or_false, @Bool.true_and, @Bool.false_and, @Bool.true_or, @Bool.false_or, @decide_eq_true, @decide_eq_false, @ibeq_t, @ibeq_f, @ibne_t, @ibne_f, @beq_self_eq_true.{0}, @Nat.zero_add, @Nat.add_zero, @Nat.mul_one, @toNat_c, @add_c, @add_one_c, @List.nil_append.{0}, @List.cons_append.{0}, @List.getD_cons_zero.{0}, @List.getD_cons_succ.{0}, @List.getD_nil.{0}, @List.length_nil.{0}, @List.length_cons.{0}, @List.length_append.{0}, @List.length_map.{0,0}, @List.isEmpty_nil.{0}, @List.isEmpty_cons.{0}⟩
end Fe
