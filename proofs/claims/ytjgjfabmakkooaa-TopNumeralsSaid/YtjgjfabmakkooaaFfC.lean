/-
  Contracts: numbers read from texts. No condition.
-/
import Derived.Test.YtjgjfabmakkooaaFfA
set_option linter.unusedSimpArgs false
set_option linter.unusedVariables false
open Go Go.Proofs
namespace Fe
def b73 : C :=
 (.seq
 (.region false [
 oQ 2 (.mov (.c (.sl true [] 0))),
 oQ 3 (.mov (.c (.bool false)))])
 (.seq
 (.region false [
 oQ 4 (.mov (.c (.sl true [] 0)))])
 (.seq
 (.seq
 (.region false [
 oQ 7 (.mov (.t 0)),
 oQ 8 (.conv .strBytes (.t 7)),
 oQ 9 (.len false (.t 8)),
 oQ 10 (.mov (.c (.int .i64 0)))])
 (.block 0
 (.loop
 (.seq
 (.region false [
 oQ 11 (.bin 0 .lss (.t 10) (.t 9))])
 (.seq
 (.cond (.t 11)
 .skip
 (.exit 0))
 (.seq
 (.block 1
 (.seq
 (.region false [
 oQ 12 (.iaddr 1 (.t 8) (.t 10)),
 oQ 13 (.load false 1 (.t 12)),
 oQ 6 (.mov (.t 13))])
 (.seq
 (.seq
 (.region false [
 oQ 14 (.mov (.t 6)),
 oQ 15 (.bin 0 .lss (.t 14) (.c (.int .u8 48))),
 oQ 16 (.mov (.t 15)),
 ⟨some 17, .op (.mov (.t 6)), some (16, false)⟩,
 ⟨some 18, .op (.bin 0 .gtr (.t 17) (.c (.int .u8 57))), some (16, false)⟩,
 oQ 19 (.pick (.t 16) (.c (.bool true)) (.t 18))])
 (.cond (.t 19)
 (.seq
 (.region false [
 oQ 2 (.mov (.c (.sl true [] 0))),
 oQ 3 (.mov (.c (.bool false)))])
 .ret)
 .skip))
 (.region false [
 oQ 20 (.mov (.t 4)),
 oQ 21 (.mksl [.int .u32 0] 1 [(0, (1, .c (.int .u32 10)))]),
 ⟨some 22, .call false (.c (.fn 89 [] [])) [.t 20, .t 21], none⟩,
 oQ 23 (.mov (.t 6)),
 oQ 24 (.bin 0 .sub (.t 23) (.c (.int .u8 48))),
 oQ 25 (.conv (.int .u32) (.t 24)),
 oQ 26 (.mksl [.int .u32 0] 1 [(0, (1, .t 25))]),
 oQ 27 (.mksl [.sl true [] 0, .sl true [] 0] 2 [(0, (1, .t 22)), (1, (1, .t 26))]),
 ⟨some 28, .call false (.c (.fn 75 [] [])) [.t 27], none⟩,
 oQ 4 (.mov (.t 28))]))))
 (.region false [
 oQ 29 (.bin 0 .add (.t 10) (.c (.int .i64 1))),
 oQ 10 (.mov (.t 29))])))))))
 (.seq
 (.region false [
 oQ 30 (.mov (.t 4)),
 oQ 31 (.mov (.t 0)),
 oQ 32 (.bin 0 .neq (.t 31) (.c (.str []))),
 oQ 2 (.mov (.t 30)),
 oQ 3 (.mov (.t 32))])
 .ret))))
def c73 : CF := ⟨33, 1, [.mov (.t 2), .mov (.t 3)], b73⟩
def b71 : C :=
 (.seq
 (.region false [
 oQ 2 (.mov (.c (.int .i64 0)))])
 (.seq
 (.seq
 (.region false [
 oQ 3 (.mov (.t 0)),
 oQ 4 (.range (.t 3))])
 (.block 0
 (.loop
 (.seq
 (.region false [
 oQ 5 (.next (.t 4)),
 oQ 6 (.extract (.t 5) 0)])
 (.seq
 (.cond (.t 6)
 .skip
 (.exit 0))
 (.block 1
 (.region false [
 oQ 7 (.mov (.t 2)),
 oQ 8 (.bin 0 .add (.t 7) (.c (.int .i64 1))),
 oQ 2 (.mov (.t 8))])))))))
 (.seq
 (.region false [
 oQ 9 (.mov (.t 2)),
 oQ 2 (.mov (.t 9))])
 .ret)))
def c71 : CF := ⟨10, 1, [.mov (.t 2)], b71⟩
def b18 : C :=
 (.seq
 (.region false [
 oQ 0 (.mov (.c (.sl true [] 0)))])
 (.seq
 (.region false [
 oQ 1 (.mksl [.int .u32 0] 1 [(0, (1, .c (.int .u32 1)))]),
 oQ 0 (.mov (.t 1))])
 .ret))
def c18 : CF := ⟨2, 0, [.mov (.t 0)], b18⟩
def b72 : C :=
 (.seq
 (.region false [
 oQ 2 (.mov (.c (.bool false))),
 oQ 3 (.mov (.c (.str []))),
 oQ 4 (.mov (.c (.int .i32 0))),
 oQ 5 (.mov (.c (.str [])))])
 (.seq
 (.seq
 (.region false [
 oQ 8 (.mov (.t 0)),
 oQ 9 (.range (.t 8))])
 (.block 0
 (.loop
 (.seq
 (.region false [
 oQ 10 (.next (.t 9)),
 oQ 11 (.extract (.t 10) 0)])
 (.seq
 (.cond (.t 11)
 .skip
 (.exit 0))
 (.block 1
 (.seq
 (.region false [
 oQ 12 (.extract (.t 10) 1),
 oQ 13 (.extract (.t 10) 2),
 oQ 6 (.mov (.t 12)),
 oQ 7 (.mov (.t 13))])
 (.block 2
 (.seq
 (.region false [
 oQ 19 (.mov (.t 6)),
 oQ 20 (.bin 0 .eql (.t 19) (.c (.int .i64 0))),
 oQ 21 (.mov (.t 20)),
 ⟨some 22, .op (.mov (.t 7)), some (21, true)⟩,
 ⟨some 23, .op (.bin 0 .eql (.t 22) (.c (.int .i32 175))), some (21, true)⟩,
 oQ 24 (.pick (.t 21) (.t 23) (.c (.bool false))),
 oQ 18 (.mov (.t 24))])
 (.cond (.t 18)
 (.region false [
 oQ 2 (.mov (.c (.bool true)))])
 (.seq
 (.region false [
 oQ 26 (.mov (.t 4)),
 oQ 27 (.bin 0 .eql (.t 26) (.c (.int .i32 0))),
 oQ 28 (.mov (.t 27)),
 ⟨some 29, .op (.mov (.t 7)), some (28, true)⟩,
 ⟨some 30, .op (.bin 0 .eql (.t 29) (.c (.int .i32 46))), some (28, true)⟩,
 ⟨some 31, .op (.mov (.t 30)), some (28, true)⟩,
 ⟨some 32, .op (.mov (.t 7)), some (31, false)⟩,
 ⟨some 33, .op (.bin 0 .eql (.t 32) (.c (.int .i32 114))), some (31, false)⟩,
 ⟨some 34, .op (.pick (.t 31) (.c (.bool true)) (.t 33)), some (28, true)⟩,
 oQ 35 (.pick (.t 28) (.t 34) (.c (.bool false))),
 oQ 25 (.mov (.t 35))])
 (.cond (.t 25)
 (.region false [
 oQ 36 (.mov (.t 7)),
 oQ 4 (.mov (.t 36))])
 (.seq
 (.region false [
 oQ 38 (.mov (.t 4)),
 oQ 39 (.bin 0 .eql (.t 38) (.c (.int .i32 0))),
 oQ 37 (.mov (.t 39))])
 (.cond (.t 37)
 (.region false [
 oQ 40 (.mov (.t 3)),
 oQ 41 (.mov (.t 7)),
 oQ 42 (.conv .runeStr (.t 41)),
 oQ 43 (.bin 0 .add (.t 40) (.t 42)),
 oQ 3 (.mov (.t 43))])
 (.region false [
 oQ 14 (.mov (.t 5)),
 oQ 15 (.mov (.t 7)),
 oQ 16 (.conv .runeStr (.t 15)),
 oQ 17 (.bin 0 .add (.t 14) (.t 16)),
 oQ 5 (.mov (.t 17))])))))))))))))))
 (.seq
 (.region false [
 oQ 44 (.mov (.t 2)),
 oQ 45 (.mov (.t 3)),
 oQ 46 (.mov (.t 4)),
 oQ 47 (.mov (.t 5)),
 oQ 2 (.mov (.t 44)),
 oQ 3 (.mov (.t 45)),
 oQ 4 (.mov (.t 46)),
 oQ 5 (.mov (.t 47))])
 .ret)))
def c72 : CF := ⟨48, 1, [.mov (.t 2), .mov (.t 3), .mov (.t 4), .mov (.t 5)], b72⟩
theorem s73 : stripF Go.Proofs.Try.prog 73 = some c73 := by kernel_rfl
theorem s71 : stripF Go.Proofs.Try.prog 71 = some c71 := by kernel_rfl
theorem s18 : stripF Go.Proofs.Try.prog 18 = some c18 := by kernel_rfl
theorem s72 : stripF Go.Proofs.Try.prog 72 = some c72 := by kernel_rfl

theorem cells_nsl {ex : Bool} {l : List Nat} : (nsl ex l).cells = [nsl ex l] := rfl
theorem cells_nf {l : List Nat} : (nf l).cells = [nf l] := rfl
theorem box_nsl {ex : Bool} {l : List Nat} : (nsl ex l).boxable = true := rfl
theorem box_nf {l : List Nat} : (nf l).boxable = true := rfl
theorem isc_nsl {ex : Bool} {l : List Nat} : (nsl ex l).isCell = true := rfl
theorem isc_nf {l : List Nat} : (nf l).isCell = true := rfl
theorem len_nsl {ex : Bool} {l : List Nat} : lenV false (nsl ex l) = some l.length := rfl
theorem len_nf {l : List Nat} : lenV false (nf l) = some l.length := rfl

theorem good18 : Good Go.Proofs.Try.prog 18 [] (nf (lim 1)) := by
  refine good_go mix s18 (Nat.le_of_ble_eq_true rfl) fun e he => ?_
  clear he
  simp only [c18,b18, oQ]
  simp -implicitDefEqProofs (disch := omega) only [↓ZD,ZP,cnd_t,cnd_f,↓reduceIte,Env.put,stepO,lenV,binV,binInt,unV,loadV,sliceV,boundOf,convV,slstrV,if_pos,if_neg,Int.reduceToNat,Nat.reducePow,V.cells,V.isCell,V.boxable,Nat.reduceEqDiff,reduceCtorEq,reduceIte,ite_self,enterEnv,fillL,evParts,splice,List.take_zero,List.take_succ_cons,List.drop_succ_cons,List.drop_zero,List.drop_nil]
  have h1 : lim 1 = [1] := by rw [lim_pos (by decide)]; simp [lim_zero]
  rw [h1]
  exact gives_eq rfl rfl

/-! ### Decimal digits -/
def decN : Nat → List UInt8 → Option Nat
  | n, [] => some n
  | n, c :: s => if c.toNat < 48 ∨ 57 < c.toNat then none else decN (n * 10 + (c.toNat - 48)) s
def natP (s : List UInt8) : Nat × Bool := match decN 0 s with
  | none => (0, false)
  | some n => (n, !(s == []))

def bsl (s : List UInt8) : List V := s.map fun b => .int .u8 b.toNat
theorem bsl_at (A Z : List UInt8) (x : UInt8) {i : Nat} (h : A.length = i) : (bsl (A ++ x :: Z))[i]? = some (.int .u8 x.toNat) := by
  subst h; simp [bsl]

theorem lim_ten {n k : Nat} (h : n < 10 ^ k) : (lim n).length ≤ k := lim_len (Nat.lt_of_lt_of_le h (Nat.pow_le_pow_left (by decide) k))

theorem good73 (s : List UInt8) (hs : s.length ≤ 4900) : Good Go.Proofs.Try.prog 73 [.str s] (.tup [nf (lim (natP s).1), .bool (natP s).2]) := by
  refine good_go mix s73 (Nat.le_of_ble_eq_true rfl) fun e he => ?_
  have e0 : e 0 = .str s := he 0
  clear he
  simp only [c73,b73, oQ]
  simp -implicitDefEqProofs (disch := omega) only [↓ZD,ZP,cnd_t,cnd_f,↓reduceIte,Env.put,stepO,lenV,binV,binInt,unV,loadV,sliceV,boundOf,convV,slstrV,if_pos,if_neg,Int.reduceToNat,Nat.reducePow,V.cells,V.isCell,V.boxable,Nat.reduceEqDiff,reduceCtorEq,reduceIte,ite_self,enterEnv,e0]
  refine go_loop (fun k e H => H = [] ∧ ∃ pre post n en, s = pre ++ post ∧ k = post.length ∧ n < 10 ^ pre.length ∧ decN n post = decN 0 s ∧ e 4 = nsl en (lim n) ∧ e 0 = .str s ∧ e 8 = .sl false (bsl s) s.length ∧ e 9 = .int .i64 (s.length : Nat) ∧ e 10 = .int .i64 (pre.length : Nat))
    s.length ⟨rfl, [], s, 0, true, rfl, rfl, by decide, rfl, ?_, ?_, ?_, ?_, ?_⟩ ?_
  · simp [Env.set, lim_zero, nsl, nl]
  · simp [Env.set, e0]
  · simp [Env.set, bsl]
  · simp [Env.set]
  · simp [Env.set]
  rintro k e H ⟨rfl, pre, post, n, en, hsp, rfl, hn, hdec, e4, e0, e8, e9, e10⟩
  have hpl : s.length = pre.length + post.length := by rw [hsp]; simp
  cases post with
  | nil =>
    simp only [List.length_nil,Nat.add_zero] at hpl
    simp -implicitDefEqProofs (disch := omega) only [↓ZD,ZP,cnd_t,cnd_f,↓reduceIte,Env.put,stepO,lenV,binV,binInt,unV,loadV,sliceV,boundOf,convV,slstrV,if_pos,if_neg,Int.reduceToNat,Nat.reducePow,V.cells,V.isCell,V.boxable,Nat.reduceEqDiff,reduceCtorEq,reduceIte,ite_self,enterEnv,e4,e0,e8,e9,e10,hpl,binStr]
    refine gives_eq (by simp only [V.ro,roL,nsl_ro,Bool.and_true,Bool.true_and]) ?_
    rw [natP, ← hdec]
    rfl
  | cons c post =>
    simp only [List.length_cons] at hpl
    have hat : (bsl s)[pre.length]? = some (.int .u8 c.toNat) := by rw [hsp]; exact bsl_at pre post c rfl
    have hc := c.toNat_lt
    rw [decN] at hdec
    generalize hcn : c.toNat = cn at *
    by_cases h1 : cn < 48
    · rw [if_pos (.inl h1)] at hdec
      simp -implicitDefEqProofs (disch := omega) only [↓ZD,ZP,cnd_t,cnd_f,↓reduceIte,Env.put,stepO,lenV,binV,binInt,unV,loadV,sliceV,boundOf,convV,slstrV,if_pos,if_neg,Int.reduceToNat,Nat.reducePow,V.cells,V.isCell,V.boxable,Nat.reduceEqDiff,reduceCtorEq,reduceIte,ite_self,enterEnv,e4,e0,e8,e9,e10,hat]
      refine gives_eq rfl ?_
      rw [natP, ← hdec, lim_zero]; rfl
    · by_cases h2 : 57 < cn
      · rw [if_pos (.inr h2)] at hdec
        simp -implicitDefEqProofs (disch := omega) only [↓ZD,ZP,cnd_t,cnd_f,↓reduceIte,Env.put,stepO,lenV,binV,binInt,unV,loadV,sliceV,boundOf,convV,slstrV,if_pos,if_neg,Int.reduceToNat,Nat.reducePow,V.cells,V.isCell,V.boxable,Nat.reduceEqDiff,reduceCtorEq,reduceIte,ite_self,enterEnv,e4,e0,e8,e9,e10,hat]
        refine gives_eq rfl ?_
        rw [natP, ← hdec, lim_zero]; rfl
      · rw [if_neg (by omega)] at hdec
        simp -implicitDefEqProofs (disch := omega) only [↓ZD,ZP,cnd_t,cnd_f,↓reduceIte,Env.put,stepO,lenV,binV,binInt,unV,loadV,sliceV,boundOf,convV,slstrV,if_pos,if_neg,Int.reduceToNat,Nat.reducePow,V.cells,V.isCell,V.boxable,Nat.reduceEqDiff,reduceCtorEq,reduceIte,ite_self,enterEnv,e4,e0,e8,e9,e10,hat,fillL,evParts,splice,List.take_zero,List.take_succ_cons,List.drop_succ_cons,List.drop_zero,List.drop_nil]
        have hl := lim_ten hn
        have hg := good89 en true (lim n) [10] (lim_lm _) (by intro x hx; simp at hx; omega) (by omega) (by simp) (by simp; omega)
        rw [lim_val] at hg
        refine calP_ro (by simp only [roL,nsl_ro]; rfl) hg (nf_ro _) ?_
        have hsub : ((cn : Int) - 48) = ((cn - 48 : Nat) : Int) := by omega
        have hmod : (cn - 48) % 4294967296 = cn - 48 := by omega
        simp -implicitDefEqProofs (disch := omega) only [↓ZD,ZP,cnd_t,cnd_f,↓reduceIte,Env.put,stepO,lenV,binV,binInt,unV,loadV,sliceV,boundOf,convV,slstrV,if_pos,if_neg,Int.reduceToNat,Nat.reducePow,V.cells,V.isCell,V.boxable,Nat.reduceEqDiff,reduceCtorEq,reduceIte,ite_self,enterEnv,e4,e0,e8,e9,e10,hat,fillL,evParts,splice,List.take_zero,List.take_succ_cons,List.drop_succ_cons,List.drop_zero,List.drop_nil,hsub,w32,hmod,↓cells_nsl,↓cells_nf,↓box_nsl,↓box_nf,↓isc_nsl,↓isc_nf,↓len_nsl,↓len_nf]
        have hv10 : val [10] = 10 := rfl
        rw [hv10]
        have h10 : n * 10 < 10 ^ (pre.length + 1) := by rw [Nat.pow_succ]; omega
        have hg2 := good75 true [(false, lim (n * 10)), (true, [cn - 48])] (by
          intro p hp
          rcases List.mem_cons.1 hp with rfl | hp
          · exact ⟨lim_lm _, by have := lim_ten h10; simp only; omega⟩
          · rw [List.mem_singleton.1 hp]
            exact ⟨by intro x hx; simp at hx; omega, by simp⟩) (by simp)
        simp only [List.map_cons,List.map_nil,List.sum_cons,List.sum_nil,lim_val,val,Nat.mul_zero,Nat.add_zero] at hg2
        refine calP_ro (nls1_ro (ex := true) (L := [(false, lim (n * 10)), (true, [cn - 48])]) (n := 2)) hg2 (nf_ro _) ?_
        simp -implicitDefEqProofs (disch := omega) only [↓ZD,ZP,cnd_t,cnd_f,↓reduceIte,Env.put,stepO,lenV,binV,binInt,unV,loadV,sliceV,boundOf,convV,slstrV,if_pos,if_neg,Int.reduceToNat,Nat.reducePow,V.cells,V.isCell,V.boxable,Nat.reduceEqDiff,reduceCtorEq,reduceIte,ite_self,enterEnv,e4,e0,e8,e9,e10]
        refine ⟨post.length, by simp, pre ++ [c], post, n * 10 + (cn - 48), false, by rw [hsp]; simp, rfl, ?_, hdec, ?_, ?_⟩
        · rw [List.length_append, List.length_singleton, Nat.pow_succ]; omega
        · rfl
        · simp

/-! ### Characters -/
theorem decL_w {s : List UInt8} (h : s ≠ []) : 1 ≤ (decL s).2 ∧ (decL s).2 ≤ s.length := by
  have hl : 1 ≤ s.length := List.length_pos_iff.2 h
  unfold decL
  simp only
  split
  · exact ⟨Nat.le_refl _, hl⟩
  split
  · rename_i h2
    simp only [Bool.and_eq_true,decide_eq_true_eq] at h2
    split <;> simp only <;> omega
  split
  · rename_i h2
    simp only [Bool.and_eq_true,decide_eq_true_eq] at h2
    split <;> simp only <;> omega
  split
  · rename_i h2
    simp only [Bool.and_eq_true,decide_eq_true_eq] at h2
    split <;> simp only <;> omega
  · exact ⟨Nat.le_refl _, hl⟩

theorem runesL_fuel : ∀ (n m : Nat) (s : List UInt8), s.length ≤ n → s.length ≤ m → runesL n s = runesL m s
  | 0, 0, s, _, _ => rfl
  | 0, m + 1, s, h, _ => by
    obtain rfl := List.length_eq_zero_iff.1 (Nat.le_zero.1 h); rfl
  | n + 1, 0, s, _, h => by
    obtain rfl := List.length_eq_zero_iff.1 (Nat.le_zero.1 h); rfl
  | n + 1, m + 1, [], _, _ => rfl
  | n + 1, m + 1, c :: r, h1, h2 => by
    simp only [runesL]
    have hw := decL_w (s := c :: r) (by simp)
    have : ((c :: r).drop (decL (c :: r)).2).length ≤ r.length := by
      rw [List.length_drop]; simp only [List.length_cons]; omega
    rw [runesL_fuel n m _ (by simp at h1; omega) (by simp at h2; omega)]

/-- The characters of a text. -/
def rn (s : List UInt8) : List Nat := runesL s.length s
theorem rn_nil : rn [] = [] := rfl
theorem rn_cons {s : List UInt8} (h : s ≠ []) : rn s = (decL s).1 :: rn (s.drop (decL s).2) := by
  cases s with
  | nil => exact absurd rfl h
  | cons c r =>
    have hw := decL_w h
    have : ((c :: r).drop (decL (c :: r)).2).length ≤ r.length := by
      rw [List.length_drop]; simp only [List.length_cons]; omega
    rw [rn, List.length_cons, runesL, rn]
    rw [runesL_fuel r.length _ _ this (Nat.le_refl _)]
theorem rn_len (s : List UInt8) : (rn s).length ≤ s.length := by
  suffices ∀ (n : Nat) (s : List UInt8), (runesL n s).length ≤ n from this _ _
  intro n
  induction n with
  | zero => intro s; simp [runesL]
  | succ n ih =>
    intro s
    cases s with
    | nil => simp [runesL]
    | cons c r => simp only [runesL,List.length_cons]; have := ih ((c :: r).drop (decL (c :: r)).2); omega

theorem drop_ne {s : List UInt8} {pos : Nat} (h : pos < s.length) : s.drop pos ≠ [] := by
  intro hh
  have := congrArg List.length hh
  rw [List.length_drop] at this
  simp at this; omega
theorem drop_dec {s : List UInt8} {pos : Nat} (h : pos < s.length) : 1 ≤ (decL (s.drop pos)).2 ∧ pos + (decL (s.drop pos)).2 ≤ s.length ∧ rn (s.drop pos) = (decL (s.drop pos)).1 :: rn (s.drop (pos + (decL (s.drop pos)).2)) := by
  have h1 := drop_ne h
  have h2 := decL_w h1
  rw [List.length_drop] at h2
  refine ⟨h2.1, by omega, ?_⟩
  rw [rn_cons h1, List.drop_drop]

theorem good71 (s : List UInt8) (hs : s.length ≤ 1100000) : Good Go.Proofs.Try.prog 71 [.str s] (.int .i64 ((rn s).length : Nat)) := by
  refine good_go mix s71 (Nat.le_of_ble_eq_true rfl) fun e he => ?_
  have e0 : e 0 = .str s := he 0
  clear he
  simp only [c71,b71, oQ]
  simp -implicitDefEqProofs (disch := omega) only [↓ZD,ZP,cnd_t,cnd_f,↓reduceIte,Env.put,stepO,lenV,binV,binInt,unV,loadV,sliceV,boundOf,convV,slstrV,if_pos,if_neg,Int.reduceToNat,Nat.reducePow,V.cells,V.isCell,V.boxable,Nat.reduceEqDiff,reduceCtorEq,reduceIte,ite_self,enterEnv,e0]
  refine go_loop (fun k e H => ∃ pos n, H = [.iter s pos] ∧ pos ≤ s.length ∧ k = s.length - pos ∧ n + (rn (s.drop pos)).length = (rn s).length ∧ e 2 = .int .i64 (n : Nat) ∧ e 4 = .cell 0 0 0)
    s.length ⟨0, 0, rfl, Nat.zero_le _, rfl, by simp, ?_, ?_⟩ ?_
  · simp [Env.set]
  · simp [Env.set]
  rintro k e H ⟨pos, n, rfl, hpos, rfl, hn, e2, e4⟩
  have hr := rn_len s
  rcases Nat.lt_or_ge pos s.length with hlt | hge
  · obtain ⟨d1, d2, d3⟩ := drop_dec hlt
    rw [d3] at hn
    obtain ⟨c, w, hd⟩ : ∃ c w, decL (s.drop pos) = (c, w) := ⟨_, _, rfl⟩
    simp only [hd] at d1 d2 d3 hn
    simp only [List.length_cons] at hn
    simp -implicitDefEqProofs (disch := omega) only [↓ZD,ZP,cnd_t,cnd_f,↓reduceIte,Env.put,stepO,lenV,binV,binInt,unV,loadV,sliceV,boundOf,convV,slstrV,if_pos,if_neg,Int.reduceToNat,Nat.reducePow,V.cells,V.isCell,V.boxable,Nat.reduceEqDiff,reduceCtorEq,reduceIte,ite_self,enterEnv,e2,e4,hlt,hd]
    exact ⟨s.length - (pos + w), by omega, pos + w, n + 1, rfl, d2, rfl, by omega, rfl⟩
  · have hnl : ¬ pos < s.length := by omega
    rw [List.drop_of_length_le hge, rn_nil] at hn
    simp only [List.length_nil,Nat.add_zero] at hn
    simp -implicitDefEqProofs (disch := omega) only [↓ZD,ZP,cnd_t,cnd_f,↓reduceIte,Env.put,stepO,lenV,binV,binInt,unV,loadV,sliceV,boundOf,convV,slstrV,if_pos,if_neg,Int.reduceToNat,Nat.reducePow,V.cells,V.isCell,V.boxable,Nat.reduceEqDiff,reduceCtorEq,reduceIte,ite_self,enterEnv,e2,e4,hnl,hn]
    exact gives_eq rfl rfl

/-! ### The parts of a number's text -/
structure Parts where
  below : Bool
  ahead : List UInt8
  mark : Nat
  behind : List UInt8

def pstep (p : Parts) (c : Nat) : Parts :=
  if p.mark = 0 ∧ (c = 46 ∨ c = 114) then { p with mark := c }
  else if p.mark = 0 then { p with ahead := p.ahead ++ encL c }
  else { p with behind := p.behind ++ encL c }
def parts (s : List UInt8) : Parts := match rn s with
  | [] => ⟨false, [], 0, []⟩
  | c :: r => if c = 175 then r.foldl pstep ⟨true, [], 0, []⟩ else (c :: r).foldl pstep ⟨false, [], 0, []⟩
def partsV (p : Parts) : V := .tup [.bool p.below, .str p.ahead, .int .i32 p.mark, .str p.behind]

theorem encL_len (n : Int) : (encL n).length ≤ 4 := by
  simp only [encL,Array.length_toList]
  unfold Utf8.encode
  simp only
  split
  · split
    · show 1 ≤ 4; decide
    split
    · show 2 ≤ 4; decide
    split
    · show 3 ≤ 4; decide
    · show 4 ≤ 4; decide
  · split
    · show 1 ≤ 4; decide
    split
    · show 2 ≤ 4; decide
    split
    · show 3 ≤ 4; decide
    · show 4 ≤ 4; decide

theorem parts_first {s : List UInt8} {c w : Nat} (hne : s ≠ []) (hd : decL s = (c, w)) : parts s = if c = 175 then (rn (s.drop w)).foldl pstep ⟨true, [], 0, []⟩ else (rn (s.drop w)).foldl pstep (pstep ⟨false, [], 0, []⟩ c) := by
  unfold parts
  rw [rn_cons hne, hd]
  rfl

/-- What the loop holds. -/
def PI (s : List UInt8) (pos : Nat) (p : Parts) : Prop := if pos = 0 then p = ⟨false, [], 0, []⟩ else parts s = (rn (s.drop pos)).foldl pstep p

theorem good72 (s : List UInt8) (hs : s.length ≤ 1100000) : Good Go.Proofs.Try.prog 72 [.str s] (partsV (parts s)) := by
  refine good_go mix s72 (Nat.le_of_ble_eq_true rfl) fun e he => ?_
  have e0 : e 0 = .str s := he 0
  clear he
  simp only [c72,b72, oQ]
  simp -implicitDefEqProofs (disch := omega) only [↓ZD,ZP,cnd_t,cnd_f,↓reduceIte,Env.put,stepO,lenV,binV,binInt,unV,loadV,sliceV,boundOf,convV,slstrV,if_pos,if_neg,Int.reduceToNat,Nat.reducePow,V.cells,V.isCell,V.boxable,Nat.reduceEqDiff,reduceCtorEq,reduceIte,ite_self,enterEnv,e0]
  refine go_loop (fun k e H => ∃ pos p, H = [.iter s pos] ∧ pos ≤ s.length ∧ k = s.length - pos ∧ p.ahead.length + p.behind.length ≤ 4 * pos ∧ PI s pos p ∧
      e 2 = .bool p.below ∧ e 3 = .str p.ahead ∧ e 4 = .int .i32 (p.mark : Nat) ∧ e 5 = .str p.behind ∧ e 9 = .cell 0 0 0)
    s.length ⟨0, ⟨false, [], 0, []⟩, rfl, Nat.zero_le _, rfl, by simp, by simp [PI], ?_, ?_, ?_, ?_, ?_⟩ ?_
  · simp [Env.set]
  · simp [Env.set]
  · simp [Env.set]
  · simp [Env.set]
  · simp [Env.set]
  rintro k e H ⟨pos, ⟨below, ahead, mark, behind⟩, rfl, hpos, rfl, hlen, hfold, e2, e3, e4, e5, e9⟩
  simp only at e2 e3 e4 e5 hlen
  rcases Nat.lt_or_ge pos s.length with hlt | hge
  · obtain ⟨d1, d2, d3⟩ := drop_dec hlt
    obtain ⟨c, w, hd⟩ : ∃ c w, decL (s.drop pos) = (c, w) := ⟨_, _, rfl⟩
    simp only [hd] at d1 d2 d3
    have hc4 := encL_len (c : Int)
    have hwp : ¬ pos + w = 0 := by omega
    have hnext : s.length - (pos + w) < s.length - pos := by omega
    by_cases hz : pos = 0 ∧ c = 175
    · obtain ⟨h0, h175⟩ := hz
      have hfold' := hfold
      rw [PI, if_pos h0, Parts.mk.injEq] at hfold'
      obtain ⟨rfl, rfl, rfl, rfl⟩ := hfold'
      simp -implicitDefEqProofs (disch := omega) only [↓ZD,ZP,cnd_t,cnd_f,↓reduceIte,Env.put,stepO,lenV,binV,binInt,unV,loadV,sliceV,boundOf,convV,slstrV,if_pos,if_neg,Int.reduceToNat,Nat.reducePow,V.cells,V.isCell,V.boxable,Nat.reduceEqDiff,reduceCtorEq,reduceIte,ite_self,enterEnv,e2,e3,e4,e5,e9,hlt,hd]
      refine ⟨_, hnext, pos + w, ⟨true, [], 0, []⟩, rfl, d2, rfl, by simp, ?_, rfl, rfl, rfl, rfl⟩
      rw [PI, if_neg hwp]
      subst h0
      rw [List.drop_zero] at hd
      rw [parts_first (by rintro rfl; simp at hlt) hd, if_pos h175, Nat.zero_add]
    · have hPI : PI s (pos + w) (pstep ⟨below, ahead, mark, behind⟩ c) := by
        rw [PI, if_neg hwp]
        by_cases h0 : pos = 0
        · subst h0
          rw [PI, if_pos rfl] at hfold
          rw [List.drop_zero] at hd
          rw [parts_first (by rintro rfl; simp at hlt) hd, if_neg (by omega), hfold]
          simp
        · rw [PI, if_neg h0, d3, List.foldl_cons] at hfold
          exact hfold
      have hla : (ahead ++ encL (c : Int)).length + behind.length ≤ 4 * (pos + w) := by rw [List.length_append]; omega
      have hlb : ahead.length + (behind ++ encL (c : Int)).length ≤ 4 * (pos + w) := by rw [List.length_append]; omega
      have hlc : ahead.length + behind.length ≤ 4 * (pos + w) := by omega
      by_cases hm : mark = 0
      · by_cases hc : c = 46 ∨ c = 114
        · rw [pstep, if_pos ⟨hm, hc⟩] at hPI
          by_cases h0 : pos = 0
          · have h175 : c ≠ 175 := by omega
            rcases hc with hc | hc
            · simp -implicitDefEqProofs (disch := omega) only [↓ZD,ZP,cnd_t,cnd_f,↓reduceIte,Env.put,stepO,lenV,binV,binInt,unV,loadV,sliceV,boundOf,convV,slstrV,if_pos,if_neg,Int.reduceToNat,Nat.reducePow,V.cells,V.isCell,V.boxable,Nat.reduceEqDiff,reduceCtorEq,reduceIte,ite_self,enterEnv,e2,e3,e4,e5,e9,hlt,hd]
              exact ⟨_, hnext, _, ⟨below, ahead, c, behind⟩, rfl, d2, rfl, hlc, hPI, rfl, rfl, rfl, rfl⟩
            · simp -implicitDefEqProofs (disch := omega) only [↓ZD,ZP,cnd_t,cnd_f,↓reduceIte,Env.put,stepO,lenV,binV,binInt,unV,loadV,sliceV,boundOf,convV,slstrV,if_pos,if_neg,Int.reduceToNat,Nat.reducePow,V.cells,V.isCell,V.boxable,Nat.reduceEqDiff,reduceCtorEq,reduceIte,ite_self,enterEnv,e2,e3,e4,e5,e9,hlt,hd]
              exact ⟨_, hnext, _, ⟨below, ahead, c, behind⟩, rfl, d2, rfl, hlc, hPI, rfl, rfl, rfl, rfl⟩
          · rcases hc with hc | hc
            · simp -implicitDefEqProofs (disch := omega) only [↓ZD,ZP,cnd_t,cnd_f,↓reduceIte,Env.put,stepO,lenV,binV,binInt,unV,loadV,sliceV,boundOf,convV,slstrV,if_pos,if_neg,Int.reduceToNat,Nat.reducePow,V.cells,V.isCell,V.boxable,Nat.reduceEqDiff,reduceCtorEq,reduceIte,ite_self,enterEnv,e2,e3,e4,e5,e9,hlt,hd]
              exact ⟨_, hnext, _, ⟨below, ahead, c, behind⟩, rfl, d2, rfl, hlc, hPI, rfl, rfl, rfl, rfl⟩
            · simp -implicitDefEqProofs (disch := omega) only [↓ZD,ZP,cnd_t,cnd_f,↓reduceIte,Env.put,stepO,lenV,binV,binInt,unV,loadV,sliceV,boundOf,convV,slstrV,if_pos,if_neg,Int.reduceToNat,Nat.reducePow,V.cells,V.isCell,V.boxable,Nat.reduceEqDiff,reduceCtorEq,reduceIte,ite_self,enterEnv,e2,e3,e4,e5,e9,hlt,hd]
              exact ⟨_, hnext, _, ⟨below, ahead, c, behind⟩, rfl, d2, rfl, hlc, hPI, rfl, rfl, rfl, rfl⟩
        · have hc1 : c ≠ 46 := by omega
          have hc2 : c ≠ 114 := by omega
          rw [pstep, if_neg (fun h => hc h.2), if_pos hm] at hPI
          by_cases h0 : pos = 0
          · have h175 : c ≠ 175 := by omega
            simp -implicitDefEqProofs (disch := omega) only [↓ZD,ZP,cnd_t,cnd_f,↓reduceIte,Env.put,stepO,lenV,binV,binInt,unV,loadV,sliceV,boundOf,convV,slstrV,if_pos,if_neg,Int.reduceToNat,Nat.reducePow,V.cells,V.isCell,V.boxable,Nat.reduceEqDiff,reduceCtorEq,reduceIte,ite_self,enterEnv,e2,e3,e4,e5,e9,hlt,hd,convV,binStr]
            exact ⟨_, hnext, _, ⟨below, ahead ++ encL c, mark, behind⟩, rfl, d2, rfl, hla, hPI, rfl, rfl, rfl, rfl⟩
          · simp -implicitDefEqProofs (disch := omega) only [↓ZD,ZP,cnd_t,cnd_f,↓reduceIte,Env.put,stepO,lenV,binV,binInt,unV,loadV,sliceV,boundOf,convV,slstrV,if_pos,if_neg,Int.reduceToNat,Nat.reducePow,V.cells,V.isCell,V.boxable,Nat.reduceEqDiff,reduceCtorEq,reduceIte,ite_self,enterEnv,e2,e3,e4,e5,e9,hlt,hd,convV,binStr]
            exact ⟨_, hnext, _, ⟨below, ahead ++ encL c, mark, behind⟩, rfl, d2, rfl, hla, hPI, rfl, rfl, rfl, rfl⟩
      · rw [pstep, if_neg (fun h => hm h.1), if_neg hm] at hPI
        by_cases h0 : pos = 0
        · exfalso
          rw [PI, if_pos h0, Parts.mk.injEq] at hfold
          exact hm hfold.2.2.1
        · simp -implicitDefEqProofs (disch := omega) only [↓ZD,ZP,cnd_t,cnd_f,↓reduceIte,Env.put,stepO,lenV,binV,binInt,unV,loadV,sliceV,boundOf,convV,slstrV,if_pos,if_neg,Int.reduceToNat,Nat.reducePow,V.cells,V.isCell,V.boxable,Nat.reduceEqDiff,reduceCtorEq,reduceIte,ite_self,enterEnv,e2,e3,e4,e5,e9,hlt,hd,convV,binStr]
          exact ⟨_, hnext, _, ⟨below, ahead, mark, behind ++ encL c⟩, rfl, d2, rfl, hlb, hPI, rfl, rfl, rfl, rfl⟩
  · have hnl : ¬ pos < s.length := by omega
    simp -implicitDefEqProofs (disch := omega) only [↓ZD,ZP,cnd_t,cnd_f,↓reduceIte,Env.put,stepO,lenV,binV,binInt,unV,loadV,sliceV,boundOf,convV,slstrV,if_pos,if_neg,Int.reduceToNat,Nat.reducePow,V.cells,V.isCell,V.boxable,Nat.reduceEqDiff,reduceCtorEq,reduceIte,ite_self,enterEnv,e2,e3,e4,e5,e9,hnl]
    have hp : parts s = ⟨below, ahead, mark, behind⟩ := by
      by_cases h0 : pos = 0
      · subst h0
        rw [PI, if_pos rfl] at hfold
        have : s = [] := List.length_eq_zero_iff.1 (by omega)
        subst this
        rw [hfold]; rfl
      · rw [PI, if_neg h0, List.drop_of_length_le hge, rn_nil] at hfold
        exact hfold
    rw [hp]
    exact gives_eq rfl rfl
end Fe
open Go Go.Proofs
namespace Fe
def b91 : C :=
 (.seq
 (.region false [
 oQ 1 (.box (.t 0)),
 oQ 2 (.box (.c (.agg [.bool false, .sl true [] 0, .sl true [] 0]))),
 oQ 3 (.mov (.c (.int .i64 0)))])
 (.seq
 (.region false [
 oQ 11 (.faddr 0 (.t 1)),
 oQ 12 (.faddr 0 (.t 11)),
 oQ 13 (.load false 1 (.t 12)),
 oQ 14 (.faddr 0 (.t 1)),
 oQ 15 (.faddr 1 (.t 14)),
 oQ 16 (.load false 1 (.t 15)),
 oQ 17 (.mksl [.sl true [] 0, .sl true [] 0] 2 [(0, (1, .t 13)), (1, (1, .t 16))]),
 ⟨some 18, .call false (.c (.fn 20 [] [])) [.t 17], none⟩,
 oQ 4 (.mov (.t 18))])
 (.seq
 (.region false [
 oQ 20 (.faddr 0 (.t 1)),
 oQ 21 (.faddr 0 (.t 20)),
 oQ 22 (.load false 1 (.t 21)),
 oQ 23 (.mov (.t 4)),
 ⟨some 24, .call false (.c (.fn 37 [] [])) [.t 22, .t 23], none⟩,
 oQ 19 (.mov (.t 24)),
 oQ 25 (.extract (.t 19) 0),
 oQ 26 (.extract (.t 19) 1),
 oQ 27 (.extract (.t 19) 2),
 oQ 5 (.mov (.t 25)),
 oQ 6 (.mov (.t 26)),
 oQ 7 (.mov (.t 27))])
 (.seq
 (.region false [
 oQ 29 (.faddr 0 (.t 1)),
 oQ 30 (.faddr 1 (.t 29)),
 oQ 31 (.load false 1 (.t 30)),
 oQ 32 (.mov (.t 4)),
 ⟨some 33, .call false (.c (.fn 37 [] [])) [.t 31, .t 32], none⟩,
 oQ 28 (.mov (.t 33)),
 oQ 34 (.extract (.t 28) 0),
 oQ 35 (.extract (.t 28) 1),
 oQ 36 (.extract (.t 28) 2),
 oQ 8 (.mov (.t 34)),
 oQ 9 (.mov (.t 35)),
 oQ 10 (.mov (.t 36))])
 (.seq
 (.block 0
 (.seq
 (.region false [
 oQ 38 (.mov (.t 7)),
 oQ 39 (.un .not (.t 38)),
 oQ 37 (.mov (.t 39))])
 (.cond (.t 37)
 (.seq
 (.region false [
 oQ 40 (.build [.bool false, .sl true [] 0, .sl true [] 0] []),
 ⟨none, .op (.store 3 (.t 2) (.t 40)), none⟩,
 oQ 3 (.mov (.c (.int .i64 22)))])
 .ret)
 (.seq
 (.region false [
 oQ 42 (.mov (.t 5)),
 oQ 43 (.len false (.t 42)),
 oQ 44 (.bin 0 .gtr (.t 43) (.c (.int .i64 32))),
 oQ 45 (.mov (.t 44)),
 ⟨some 46, .op (.mov (.t 8)), some (45, false)⟩,
 ⟨some 47, .op (.len false (.t 46)), some (45, false)⟩,
 ⟨some 48, .op (.bin 0 .gtr (.t 47) (.c (.int .i64 32))), some (45, false)⟩,
 oQ 49 (.pick (.t 45) (.c (.bool true)) (.t 48)),
 oQ 41 (.mov (.t 49))])
 (.cond (.t 41)
 (.seq
 (.region false [
 oQ 50 (.build [.bool false, .sl true [] 0, .sl true [] 0] []),
 ⟨none, .op (.store 3 (.t 2) (.t 50)), none⟩,
 oQ 3 (.mov (.c (.int .i64 8)))])
 .ret)
 .skip)))))
 (.seq
 (.region false [
 oQ 51 (.faddr 2 (.t 1)),
 oQ 52 (.load false 1 (.t 51)),
 oQ 53 (.mov (.t 52)),
 ⟨some 54, .op (.mov (.t 5)), some (53, true)⟩,
 ⟨some 55, .op (.len false (.t 54)), some (53, true)⟩,
 ⟨some 56, .op (.bin 0 .gtr (.t 55) (.c (.int .i64 0))), some (53, true)⟩,
 oQ 57 (.pick (.t 53) (.t 56) (.c (.bool false))),
 oQ 58 (.mov (.t 5)),
 oQ 59 (.mov (.t 8)),
 oQ 60 (.build [.bool false, .sl true [] 0, .sl true [] 0] [(0, (1, .t 57)), (1, (1, .t 58)), (2, (1, .t 59))]),
 ⟨none, .op (.store 3 (.t 2) (.t 60)), none⟩,
 oQ 3 (.mov (.c (.int .i64 0)))])
 .ret))))))
def c91 : CF := ⟨61, 1, [.load true 3 (.t 2), .mov (.t 3)], b91⟩
def b76 : C :=
 (.seq
 (.region false [
 oQ 6 (.box (.c (.agg [.bool false, .sl true [] 0, .sl true [] 0]))),
 oQ 7 (.mov (.c (.int .i64 0)))])
 (.seq
 (.seq
 (.region false [
 oQ 8 (.mov (.t 2)),
 ⟨some 9, .call false (.c (.fn 32 [] [])) [.t 8], none⟩,
 oQ 10 (.len false (.t 9)),
 oQ 11 (.bin 0 .eql (.t 10) (.c (.int .i64 0)))])
 (.cond (.t 11)
 (.seq
 (.region false [
 oQ 12 (.build [.bool false, .sl true [] 0, .sl true [] 0] []),
 ⟨none, .op (.store 3 (.t 6) (.t 12)), none⟩,
 oQ 7 (.mov (.c (.int .i64 22)))])
 .ret)
 .skip))
 (.seq
 (.region false [
 oQ 13 (.mov (.t 1)),
 oQ 14 (.mov (.t 2)),
 oQ 15 (.build [.sl true [] 0, .sl true [] 0] [(0, (1, .t 13)), (1, (1, .t 14))]),
 oQ 16 (.mov (.t 0)),
 oQ 17 (.build [.sl true [] 0, .sl true [] 0, .bool false] [(0, (2, .t 15)), (2, (1, .t 16))]),
 ⟨some 18, .call false (.c (.fn 91 [] [])) [.t 17], none⟩,
 oQ 19 (.extract (.t 18) 0),
 oQ 20 (.extract (.t 18) 1),
 ⟨none, .op (.store 3 (.t 6) (.t 19)), none⟩,
 oQ 7 (.mov (.t 20))])
 .ret)))
def c76 : CF := ⟨21, 3, [.load true 3 (.t 6), .mov (.t 7)], b76⟩
def b48 : C :=
 (.seq
 (.region false [
 oQ 2 (.box (.c (.agg [.bool false, .sl true [] 0, .sl true [] 0]))),
 oQ 3 (.mov (.c (.int .i64 0)))])
 (.seq
 (.seq
 (.region false [
 oQ 13 (.mov (.t 0)),
 ⟨some 14, .call false (.c (.fn 71 [] [])) [.t 13], none⟩,
 oQ 15 (.bin 0 .gtr (.t 14) (.c (.int .i64 700)))])
 (.cond (.t 15)
 (.seq
 (.region false [
 oQ 16 (.build [.bool false, .sl true [] 0, .sl true [] 0] []),
 ⟨none, .op (.store 3 (.t 2) (.t 16)), none⟩,
 oQ 3 (.mov (.c (.int .i64 8)))])
 .ret)
 .skip))
 (.seq
 (.region false [
 oQ 18 (.mov (.t 0)),
 ⟨some 19, .call false (.c (.fn 72 [] [])) [.t 18], none⟩,
 oQ 17 (.mov (.t 19)),
 oQ 20 (.extract (.t 17) 0),
 oQ 21 (.extract (.t 17) 1),
 oQ 22 (.extract (.t 17) 2),
 oQ 23 (.extract (.t 17) 3),
 oQ 4 (.mov (.t 20)),
 oQ 5 (.mov (.t 21)),
 oQ 6 (.mov (.t 22)),
 oQ 7 (.mov (.t 23))])
 (.seq
 (.region false [
 oQ 25 (.mov (.t 5)),
 ⟨some 26, .call false (.c (.fn 73 [] [])) [.t 25], none⟩,
 oQ 24 (.mov (.t 26)),
 oQ 27 (.extract (.t 24) 0),
 oQ 28 (.extract (.t 24) 1),
 oQ 8 (.mov (.t 27)),
 oQ 9 (.mov (.t 28))])
 (.seq
 (.region false [
 oQ 30 (.mov (.t 7)),
 ⟨some 31, .call false (.c (.fn 73 [] [])) [.t 30], none⟩,
 oQ 29 (.mov (.t 31)),
 oQ 32 (.extract (.t 29) 0),
 oQ 33 (.extract (.t 29) 1),
 oQ 10 (.mov (.t 32)),
 oQ 11 (.mov (.t 33))])
 (.seq
 (.region false [
 ⟨some 34, .call false (.c (.fn 18 [] [])) [], none⟩,
 oQ 12 (.mov (.t 34))])
 (.seq
 (.block 0
 (.seq
 (.region false [
 oQ 36 (.mov (.t 9)),
 oQ 37 (.un .not (.t 36)),
 oQ 38 (.mov (.t 37)),
 ⟨some 39, .op (.mov (.t 6)), some (38, false)⟩,
 ⟨some 40, .op (.bin 0 .neq (.t 39) (.c (.int .i32 0))), some (38, false)⟩,
 ⟨some 41, .op (.mov (.t 40)), some (38, false)⟩,
 ⟨some 42, .op (.mov (.t 11)), some (41, true)⟩,
 ⟨some 43, .op (.un .not (.t 42)), some (41, true)⟩,
 ⟨some 44, .op (.pick (.t 41) (.t 43) (.c (.bool false))), some (38, false)⟩,
 oQ 45 (.pick (.t 38) (.c (.bool true)) (.t 44)),
 oQ 46 (.mov (.t 45)),
 ⟨some 47, .op (.mov (.t 6)), some (46, false)⟩,
 ⟨some 48, .op (.bin 0 .eql (.t 47) (.c (.int .i32 114))), some (46, false)⟩,
 ⟨some 49, .op (.mov (.t 48)), some (46, false)⟩,
 ⟨some 50, .op (.mov (.t 10)), some (49, true)⟩,
 ⟨some 51, .op (.len false (.t 50)), some (49, true)⟩,
 ⟨some 52, .op (.bin 0 .eql (.t 51) (.c (.int .i64 0))), some (49, true)⟩,
 ⟨some 53, .op (.pick (.t 49) (.t 52) (.c (.bool false))), some (46, false)⟩,
 oQ 54 (.pick (.t 46) (.c (.bool true)) (.t 53)),
 oQ 35 (.mov (.t 54))])
 (.cond (.t 35)
 (.seq
 (.region false [
 oQ 55 (.build [.bool false, .sl true [] 0, .sl true [] 0] []),
 ⟨none, .op (.store 3 (.t 2) (.t 55)), none⟩,
 oQ 3 (.mov (.c (.int .i64 22)))])
 .ret)
 (.seq
 (.region false [
 oQ 57 (.mov (.t 6)),
 oQ 58 (.bin 0 .eql (.t 57) (.c (.int .i32 114))),
 oQ 56 (.mov (.t 58))])
 (.cond (.t 56)
 (.region false [
 oQ 59 (.mov (.t 10)),
 oQ 12 (.mov (.t 59))])
 (.seq
 (.region false [
 oQ 61 (.mov (.t 6)),
 oQ 62 (.bin 0 .eql (.t 61) (.c (.int .i32 46))),
 oQ 60 (.mov (.t 62))])
 (.cond (.t 60)
 (.seq
 (.seq
 (.region false [
 oQ 63 (.mov (.t 7)),
 oQ 64 (.range (.t 63))])
 (.block 1
 (.loop
 (.seq
 (.region false [
 oQ 65 (.next (.t 64)),
 oQ 66 (.extract (.t 65) 0)])
 (.seq
 (.cond (.t 66)
 .skip
 (.exit 1))
 (.block 2
 (.region false [
 oQ 67 (.mov (.t 12)),
 oQ 68 (.mksl [.int .u32 0] 1 [(0, (1, .c (.int .u32 10)))]),
 oQ 69 (.mksl [.sl true [] 0, .sl true [] 0] 2 [(0, (1, .t 67)), (1, (1, .t 68))]),
 ⟨some 70, .call false (.c (.fn 74 [] [])) [.t 69], none⟩,
 oQ 12 (.mov (.t 70))])))))))
 (.region false [
 oQ 71 (.mov (.t 8)),
 oQ 72 (.mov (.t 12)),
 oQ 73 (.mksl [.sl true [] 0, .sl true [] 0] 2 [(0, (1, .t 71)), (1, (1, .t 72))]),
 ⟨some 74, .call false (.c (.fn 74 [] [])) [.t 73], none⟩,
 oQ 75 (.mov (.t 10)),
 oQ 76 (.mksl [.sl true [] 0, .sl true [] 0] 2 [(0, (1, .t 74)), (1, (1, .t 75))]),
 ⟨some 77, .call false (.c (.fn 75 [] [])) [.t 76], none⟩,
 oQ 8 (.mov (.t 77))]))
 .skip)))))))
 (.seq
 (.region false [
 oQ 78 (.mov (.t 4)),
 oQ 79 (.mov (.t 8)),
 oQ 80 (.mov (.t 12)),
 ⟨some 81, .call false (.c (.fn 76 [] [])) [.t 78, .t 79, .t 80], none⟩,
 oQ 82 (.extract (.t 81) 0),
 oQ 83 (.extract (.t 81) 1),
 ⟨none, .op (.store 3 (.t 2) (.t 82)), none⟩,
 oQ 3 (.mov (.t 83))])
 .ret))))))))
def c48 : CF := ⟨84, 1, [.load true 3 (.t 2), .mov (.t 3)], b48⟩
theorem s91 : stripF Go.Proofs.Try.prog 91 = some c91 := by kernel_rfl
theorem s76 : stripF Go.Proofs.Try.prog 76 = some c76 := by kernel_rfl
theorem s48 : stripF Go.Proofs.Try.prog 48 = some c48 := by kernel_rfl

/-- A number, as a value. -/
def rv (b : Bool) (n d : Nat) : V := .agg [.bool b, nf (lim n), nf (lim d)]
theorem rv_ro (b : Bool) (n d : Nat) : (rv b n d).ro = true := by
  simp only [rv,V.ro,roL,nf_ro]; rfl

/-- In lowest terms. -/
def lowR (below : Bool) (n d : Nat) : V × Nat :=
  if Nat.gcd n d = 0 then (rv false 0 0, 22)
  else if 32 < (lim (n / Nat.gcd n d)).length ∨ 32 < (lim (d / Nat.gcd n d)).length then (rv false 0 0, 8)
  else (rv (below && decide (0 < (lim (n / Nat.gcd n d)).length)) (n / Nat.gcd n d) (d / Nat.gcd n d), 0)
def pairV (p : V × Nat) : V := .tup [p.1, .int .i64 p.2]

theorem rv0 : V.agg [.bool false, .sl false [] 0, .sl false [] 0] = rv false 0 0 := by rw [rv, lim_zero]; rfl

theorem good91 (ea eb below : Bool) (a b : List Nat) (ha : Lm a) (hb : Lm b) (hla : a.length ≤ 50000) (hlb : b.length ≤ 50000) :
    Good Go.Proofs.Try.prog 91 [.agg [nsl ea a, nsl eb b, .bool below]] (pairV (lowR below (val a) (val b))) := by
  refine good_go mix s91 (Nat.le_of_ble_eq_true rfl) fun e he => ?_
  have e0 : e 0 = .agg [nsl ea a, nsl eb b, .bool below] := he 0
  clear he
  simp only [c91,b91, oQ]
  simp -implicitDefEqProofs (disch := omega) only [↓ZD,ZP,cnd_t,cnd_f,↓reduceIte,Env.put,stepO,lenV,binV,binInt,unV,loadV,sliceV,boundOf,convV,slstrV,if_pos,if_neg,Int.reduceToNat,Nat.reducePow,V.cells,V.isCell,V.boxable,Nat.reduceEqDiff,reduceCtorEq,reduceIte,ite_self,enterEnv,e0,fillL,evParts,splice,List.take_zero,List.take_succ_cons,List.drop_succ_cons,List.drop_zero,List.drop_nil,nf,nsl]
  have hg := good20 true [(ea, a), (eb, b)] (by
    intro p hp
    rcases List.mem_cons.1 hp with rfl | hp
    · exact ⟨ha, by simp only; omega⟩
    · rw [List.mem_singleton.1 hp]; exact ⟨hb, by simp only; omega⟩) (by simp)
  have hgc : gcdL 0 [(ea, a), (eb, b)] = Nat.gcd (val a) (val b) := by simp [gcdL]
  rw [hgc] at hg
  refine calP_ro (nls1_ro (ex := true) (L := [(ea, a), (eb, b)]) (n := 2)) hg (nf_ro _) ?_
  rw [lowR]
  have hgl : (lim (Nat.gcd (val a) (val b))).length ≤ 100000 := by
    by_cases h0 : val a = 0
    · rw [h0, Nat.gcd_zero_left]; exact Nat.le_trans (lim_len (val_lt hb)) (by omega)
    · exact Nat.le_trans (Nat.le_trans (lim_mono (Nat.gcd_le_left _ (by omega))) (lim_len (val_lt ha))) (by omega)
  have hd1 := good37 ea false a (lim (Nat.gcd (val a) (val b))) ha (lim_lm _) (by omega) hgl
  have hd2 := good37 eb false b (lim (Nat.gcd (val a) (val b))) hb (lim_lm _) (by omega) hgl
  rw [lim_val, divR] at hd1 hd2
  generalize Nat.gcd (val a) (val b) = g at *
  by_cases h0 : g = 0
  · rw [if_pos h0] at hd1 hd2 ⊢
    simp -implicitDefEqProofs (disch := omega) only [↓ZD,ZP,cnd_t,cnd_f,↓reduceIte,Env.put,stepO,lenV,binV,binInt,unV,loadV,sliceV,boundOf,convV,slstrV,if_pos,if_neg,Int.reduceToNat,Nat.reducePow,V.cells,V.isCell,V.boxable,Nat.reduceEqDiff,reduceCtorEq,reduceIte,ite_self,enterEnv,e0,fillL,evParts,splice,List.take_zero,List.take_succ_cons,List.drop_succ_cons,List.drop_zero,List.drop_nil,nf,nsl]
    refine calP_ro (by simp [roL, V.ro, nl_ro, nsl_ro, nf_ro, nls_ro]) hd1 rfl ?_
    simp -implicitDefEqProofs (disch := omega) only [↓ZD,ZP,cnd_t,cnd_f,↓reduceIte,Env.put,stepO,lenV,binV,binInt,unV,loadV,sliceV,boundOf,convV,slstrV,if_pos,if_neg,Int.reduceToNat,Nat.reducePow,V.cells,V.isCell,V.boxable,Nat.reduceEqDiff,reduceCtorEq,reduceIte,ite_self,enterEnv,e0,fillL,evParts,splice,List.take_zero,List.take_succ_cons,List.drop_succ_cons,List.drop_zero,List.drop_nil,nf,nsl]
    refine calP_ro (by simp [roL, V.ro, nl_ro, nsl_ro, nf_ro, nls_ro]) hd2 rfl ?_
    simp -implicitDefEqProofs (disch := omega) only [↓ZD,ZP,cnd_t,cnd_f,↓reduceIte,Env.put,stepO,lenV,binV,binInt,unV,loadV,sliceV,boundOf,convV,slstrV,if_pos,if_neg,Int.reduceToNat,Nat.reducePow,V.cells,V.isCell,V.boxable,Nat.reduceEqDiff,reduceCtorEq,reduceIte,ite_self,enterEnv,e0,fillL,evParts,splice,List.take_zero,List.take_succ_cons,List.drop_succ_cons,List.drop_zero,List.drop_nil,nf,nsl]
    refine gives_eq (by simp [roL, V.ro, nl_ro, nsl_ro, nf_ro, nls_ro]) ?_
    rw [← rv0]; rfl
  · rw [if_neg h0] at hd1 hd2 ⊢
    simp -implicitDefEqProofs (disch := omega) only [↓ZD,ZP,cnd_t,cnd_f,↓reduceIte,Env.put,stepO,lenV,binV,binInt,unV,loadV,sliceV,boundOf,convV,slstrV,if_pos,if_neg,Int.reduceToNat,Nat.reducePow,V.cells,V.isCell,V.boxable,Nat.reduceEqDiff,reduceCtorEq,reduceIte,ite_self,enterEnv,e0,fillL,evParts,splice,List.take_zero,List.take_succ_cons,List.drop_succ_cons,List.drop_zero,List.drop_nil,nf,nsl]
    refine calP_ro (by simp [roL, V.ro, nl_ro, nsl_ro, nf_ro, nls_ro]) hd1 (by simp [roL, V.ro, nl_ro, nsl_ro, nf_ro, nls_ro]) ?_
    simp -implicitDefEqProofs (disch := omega) only [↓ZD,ZP,cnd_t,cnd_f,↓reduceIte,Env.put,stepO,lenV,binV,binInt,unV,loadV,sliceV,boundOf,convV,slstrV,if_pos,if_neg,Int.reduceToNat,Nat.reducePow,V.cells,V.isCell,V.boxable,Nat.reduceEqDiff,reduceCtorEq,reduceIte,ite_self,enterEnv,e0,fillL,evParts,splice,List.take_zero,List.take_succ_cons,List.drop_succ_cons,List.drop_zero,List.drop_nil,nf,nsl]
    refine calP_ro (by simp [roL, V.ro, nl_ro, nsl_ro, nf_ro, nls_ro]) hd2 (by simp [roL, V.ro, nl_ro, nsl_ro, nf_ro, nls_ro]) ?_
    generalize val a / g = x at *
    generalize val b / g = y at *
    by_cases h1 : 32 < (lim x).length
    · rw [if_pos (.inl h1)]
      simp -implicitDefEqProofs (disch := omega) only [↓ZD,ZP,cnd_t,cnd_f,↓reduceIte,Env.put,stepO,lenV,binV,binInt,unV,loadV,sliceV,boundOf,convV,slstrV,if_pos,if_neg,Int.reduceToNat,Nat.reducePow,V.cells,V.isCell,V.boxable,Nat.reduceEqDiff,reduceCtorEq,reduceIte,ite_self,enterEnv,e0,fillL,evParts,splice,List.take_zero,List.take_succ_cons,List.drop_succ_cons,List.drop_zero,List.drop_nil,nf,nsl]
      refine gives_eq (by simp [roL, V.ro, nl_ro, nsl_ro, nf_ro, nls_ro]) ?_
      rw [← rv0]; rfl
    · by_cases h2 : 32 < (lim y).length
      · rw [if_pos (.inr h2)]
        simp -implicitDefEqProofs (disch := omega) only [↓ZD,ZP,cnd_t,cnd_f,↓reduceIte,Env.put,stepO,lenV,binV,binInt,unV,loadV,sliceV,boundOf,convV,slstrV,if_pos,if_neg,Int.reduceToNat,Nat.reducePow,V.cells,V.isCell,V.boxable,Nat.reduceEqDiff,reduceCtorEq,reduceIte,ite_self,enterEnv,e0,fillL,evParts,splice,List.take_zero,List.take_succ_cons,List.drop_succ_cons,List.drop_zero,List.drop_nil,nf,nsl]
        refine gives_eq (by simp [roL, V.ro, nl_ro, nsl_ro, nf_ro, nls_ro]) ?_
        rw [← rv0]; rfl
      · rw [if_neg (by omega)]
        cases below with
        | false =>
          simp -implicitDefEqProofs (disch := omega) only [↓ZD,ZP,cnd_t,cnd_f,↓reduceIte,Env.put,stepO,lenV,binV,binInt,unV,loadV,sliceV,boundOf,convV,slstrV,if_pos,if_neg,Int.reduceToNat,Nat.reducePow,V.cells,V.isCell,V.boxable,Nat.reduceEqDiff,reduceCtorEq,reduceIte,ite_self,enterEnv,e0,fillL,evParts,splice,List.take_zero,List.take_succ_cons,List.drop_succ_cons,List.drop_zero,List.drop_nil,nf,nsl]
          exact gives_eq (by simp [roL, V.ro, nl_ro, nsl_ro, nf_ro, nls_ro]) rfl
        | true =>
          by_cases h3 : 0 < (lim x).length
          · rw [decide_eq_true h3]
            simp -implicitDefEqProofs (disch := omega) only [↓ZD,ZP,cnd_t,cnd_f,↓reduceIte,Env.put,stepO,lenV,binV,binInt,unV,loadV,sliceV,boundOf,convV,slstrV,if_pos,if_neg,Int.reduceToNat,Nat.reducePow,V.cells,V.isCell,V.boxable,Nat.reduceEqDiff,reduceCtorEq,reduceIte,ite_self,enterEnv,e0,fillL,evParts,splice,List.take_zero,List.take_succ_cons,List.drop_succ_cons,List.drop_zero,List.drop_nil,nf,nsl]
            exact gives_eq (by simp [roL, V.ro, nl_ro, nsl_ro, nf_ro, nls_ro]) rfl
          · rw [decide_eq_false h3]
            simp -implicitDefEqProofs (disch := omega) only [↓ZD,ZP,cnd_t,cnd_f,↓reduceIte,Env.put,stepO,lenV,binV,binInt,unV,loadV,sliceV,boundOf,convV,slstrV,if_pos,if_neg,Int.reduceToNat,Nat.reducePow,V.cells,V.isCell,V.boxable,Nat.reduceEqDiff,reduceCtorEq,reduceIte,ite_self,enterEnv,e0,fillL,evParts,splice,List.take_zero,List.take_succ_cons,List.drop_succ_cons,List.drop_zero,List.drop_nil,nf,nsl]
            exact gives_eq (by simp [roL, V.ro, nl_ro, nsl_ro, nf_ro, nls_ro]) rfl

def makeR (below : Bool) (n d : Nat) : V × Nat := if d = 0 then (rv false 0 0, 22) else lowR below n d

theorem lowR_cases (below : Bool) (n d : Nat) : lowR below n d = (rv false 0 0, 22) ∨ lowR below n d = (rv false 0 0, 8) ∨ ∃ b x y, lowR below n d = (rv b x y, 0) := by
  unfold lowR
  split
  · exact .inl rfl
  split
  · exact .inr (.inl rfl)
  · exact .inr (.inr ⟨_, _, _, rfl⟩)
theorem lowR_agg (below : Bool) (n d : Nat) : ∃ b x y m, lowR below n d = (rv b x y, m) := by
  rcases lowR_cases below n d with h | h | ⟨b, x, y, h⟩
  · exact ⟨_, _, _, _, h⟩
  · exact ⟨_, _, _, _, h⟩
  · exact ⟨_, _, _, _, h⟩

theorem good76 (ea eb below : Bool) (a b : List Nat) (ha : Lm a) (hb : Lm b) (hla : a.length ≤ 50000) (hlb : b.length ≤ 50000) :
    Good Go.Proofs.Try.prog 76 [.bool below, nsl ea a, nsl eb b] (pairV (makeR below (val a) (val b))) := by
  refine good_go mix s76 (Nat.le_of_ble_eq_true rfl) fun e he => ?_
  have e0 : e 0 = .bool below := he 0
  have e1 : e 1 = nsl ea a := he 1
  have e2 : e 2 = nsl eb b := he 2
  clear he
  simp only [c76,b76, oQ]
  simp -implicitDefEqProofs (disch := omega) only [↓ZD,ZP,cnd_t,cnd_f,↓reduceIte,Env.put,stepO,lenV,binV,binInt,unV,loadV,sliceV,boundOf,convV,slstrV,if_pos,if_neg,Int.reduceToNat,Nat.reducePow,V.cells,V.isCell,V.boxable,Nat.reduceEqDiff,reduceCtorEq,reduceIte,ite_self,enterEnv,e0,e1,e2,fillL,evParts,splice,List.take_zero,List.take_succ_cons,List.drop_succ_cons,List.drop_zero,List.drop_nil,nf,nsl]
  refine calP_ro (by simp [roL, V.ro, nl_ro, nsl_ro, nf_ro, nls_ro]) (trim32 eb b (by omega)) (nf_ro _) ?_
  rw [cut_lim hb, makeR]
  by_cases h0 : val b = 0
  · rw [if_pos h0, h0, lim_zero]
    simp -implicitDefEqProofs (disch := omega) only [↓ZD,ZP,cnd_t,cnd_f,↓reduceIte,Env.put,stepO,lenV,binV,binInt,unV,loadV,sliceV,boundOf,convV,slstrV,if_pos,if_neg,Int.reduceToNat,Nat.reducePow,V.cells,V.isCell,V.boxable,Nat.reduceEqDiff,reduceCtorEq,reduceIte,ite_self,enterEnv,e0,e1,e2,fillL,evParts,splice,List.take_zero,List.take_succ_cons,List.drop_succ_cons,List.drop_zero,List.drop_nil,nf,nsl]
    refine gives_eq (by simp [roL, V.ro, nl_ro, nsl_ro, nf_ro, nls_ro]) ?_
    rw [← rv0]; rfl
  · rw [if_neg h0]
    have hne := (not_congr (lim_nil_len (n := val b))).2 h0
    simp -implicitDefEqProofs (disch := omega) only [↓ZD,ZP,cnd_t,cnd_f,↓reduceIte,Env.put,stepO,lenV,binV,binInt,unV,loadV,sliceV,boundOf,convV,slstrV,if_pos,if_neg,Int.reduceToNat,Nat.reducePow,V.cells,V.isCell,V.boxable,Nat.reduceEqDiff,reduceCtorEq,reduceIte,ite_self,enterEnv,e0,e1,e2,fillL,evParts,splice,List.take_zero,List.take_succ_cons,List.drop_succ_cons,List.drop_zero,List.drop_nil,nf,nsl]
    have hg := good91 ea eb below a b ha hb hla hlb
    obtain ⟨b', x, y, m, hl⟩ := lowR_agg below (val a) (val b)
    rw [hl, pairV, rv] at hg
    rw [hl]
    refine calP_ro (by simp [roL, V.ro, nl_ro, nsl_ro, nf_ro, nls_ro]) hg (by simp [roL, V.ro, nl_ro, nsl_ro, nf_ro, nls_ro]) ?_
    simp -implicitDefEqProofs (disch := omega) only [↓ZD,ZP,cnd_t,cnd_f,↓reduceIte,Env.put,stepO,lenV,binV,binInt,unV,loadV,sliceV,boundOf,convV,slstrV,if_pos,if_neg,Int.reduceToNat,Nat.reducePow,V.cells,V.isCell,V.boxable,Nat.reduceEqDiff,reduceCtorEq,reduceIte,ite_self,enterEnv,e0,e1,e2,fillL,evParts,splice,List.take_zero,List.take_succ_cons,List.drop_succ_cons,List.drop_zero,List.drop_nil,nf,nsl]
    exact gives_eq (by simp [roL, V.ro, nl_ro, nsl_ro, nf_ro, nls_ro]) rfl

/-! ### A number's text -/
def ratP (s : List UInt8) : V × Nat :=
  if 700 < (rn s).length then (rv false 0 0, 8)
  else if (natP (parts s).ahead).2 = false ∨ ((parts s).mark ≠ 0 ∧ (natP (parts s).behind).2 = false) ∨ ((parts s).mark = 114 ∧ (natP (parts s).behind).1 = 0) then (rv false 0 0, 22)
  else if (parts s).mark = 114 then makeR (parts s).below (natP (parts s).ahead).1 (natP (parts s).behind).1
  else if (parts s).mark = 46 then makeR (parts s).below ((natP (parts s).ahead).1 * 10 ^ (rn (parts s).behind).length + (natP (parts s).behind).1) (10 ^ (rn (parts s).behind).length)
  else makeR (parts s).below (natP (parts s).ahead).1 1

theorem makeR_agg (below : Bool) (n d : Nat) : ∃ b x y m, makeR below n d = (rv b x y, m) := by
  unfold makeR
  split
  · exact ⟨_, _, _, _, rfl⟩
  · exact lowR_agg _ _ _

theorem pstep_len (p : Parts) (c : Nat) : (pstep p c).ahead.length + (pstep p c).behind.length ≤ p.ahead.length + p.behind.length + 4 := by
  have := encL_len (c : Int)
  unfold pstep
  split
  · simp only; omega
  split
  · simp only [List.length_append]; omega
  · simp only [List.length_append]; omega
theorem pfold_len : ∀ (l : List Nat) (p : Parts), (l.foldl pstep p).ahead.length + (l.foldl pstep p).behind.length ≤ p.ahead.length + p.behind.length + 4 * l.length
  | [], p => by simp
  | c :: l, p => by
    rw [List.foldl_cons]
    have h1 := pfold_len l (pstep p c)
    have h2 := pstep_len p c
    simp only [List.length_cons]
    omega
theorem parts_len (s : List UInt8) : (parts s).ahead.length + (parts s).behind.length ≤ 4 * (rn s).length := by
  unfold parts
  split
  · simp
  · rename_i c r h
    rw [h]
    split
    · have := pfold_len r ⟨true, [], 0, []⟩
      simp only [List.length_nil,List.length_cons] at *
      omega
    · have := pfold_len (c :: r) ⟨false, [], 0, []⟩
      simp only [List.length_nil,List.length_cons] at *
      omega
theorem decN_lt : ∀ (s : List UInt8) (n k m : Nat), n < 10 ^ k → decN n s = some m → m < 10 ^ (k + s.length)
  | [], n, k, m, h, hd => by cases hd; simpa using h
  | c :: s, n, k, m, h, hd => by
    rw [decN] at hd
    split at hd
    · cases hd
    · rename_i hc
      have := decN_lt s (n * 10 + (c.toNat - 48)) (k + 1) m (by rw [Nat.pow_succ]; omega) hd
      rw [List.length_cons, show k + (s.length + 1) = k + 1 + s.length by omega]
      exact this
theorem natP_lt (s : List UInt8) : (natP s).1 < 10 ^ s.length := by
  unfold natP
  split
  · exact Nat.pow_pos (by decide)
  · rename_i n h
    have := decN_lt s 0 0 n (by decide) h
    simpa using this

theorem good48 (s : List UInt8) (hs : s.length ≤ 100000) : Good Go.Proofs.Try.prog 48 [.str s] (pairV (ratP s)) := by
  refine good_go mix s48 (Nat.le_of_ble_eq_true rfl) fun e he => ?_
  have e0 : e 0 = .str s := he 0
  clear he
  simp only [c48,b48, oQ]
  simp -implicitDefEqProofs (disch := omega) only [↓ZD,ZP,cnd_t,cnd_f,↓reduceIte,Env.put,stepO,lenV,binV,binInt,unV,loadV,sliceV,boundOf,convV,slstrV,if_pos,if_neg,Int.reduceToNat,Nat.reducePow,V.cells,V.isCell,V.boxable,Nat.reduceEqDiff,reduceCtorEq,reduceIte,ite_self,enterEnv,e0,fillL,evParts,splice,List.take_zero,List.take_succ_cons,List.drop_succ_cons,List.drop_zero,List.drop_nil,nf,nsl]
  refine calP_ro rfl (good71 s (by omega)) rfl ?_
  rw [ratP]
  by_cases h700 : 700 < (rn s).length
  · rw [if_pos h700]
    simp -implicitDefEqProofs (disch := omega) only [↓ZD,ZP,cnd_t,cnd_f,↓reduceIte,Env.put,stepO,lenV,binV,binInt,unV,loadV,sliceV,boundOf,convV,slstrV,if_pos,if_neg,Int.reduceToNat,Nat.reducePow,V.cells,V.isCell,V.boxable,Nat.reduceEqDiff,reduceCtorEq,reduceIte,ite_self,enterEnv,e0,fillL,evParts,splice,List.take_zero,List.take_succ_cons,List.drop_succ_cons,List.drop_zero,List.drop_nil,nf,nsl]
    refine gives_eq (by simp [roL, V.ro, nl_ro, nsl_ro, nf_ro, nls_ro]) ?_
    rw [← rv0]; rfl
  rw [if_neg h700]
  have hpl := parts_len s
  have hg72 := good72 s (by omega)
  have hb1 := natP_lt (parts s).ahead
  have hb2 := natP_lt (parts s).behind
  have hgA := good73 (parts s).ahead (by omega)
  have hgB := good73 (parts s).behind (by omega)
  generalize parts s = p at *
  obtain ⟨below, ahead, mark, behind⟩ := p
  simp only [partsV] at *
  simp -implicitDefEqProofs (disch := omega) only [↓ZD,ZP,cnd_t,cnd_f,↓reduceIte,Env.put,stepO,lenV,binV,binInt,unV,loadV,sliceV,boundOf,convV,slstrV,if_pos,if_neg,Int.reduceToNat,Nat.reducePow,V.cells,V.isCell,V.boxable,Nat.reduceEqDiff,reduceCtorEq,reduceIte,ite_self,enterEnv,e0,fillL,evParts,splice,List.take_zero,List.take_succ_cons,List.drop_succ_cons,List.drop_zero,List.drop_nil,nf,nsl]
  refine calP_ro rfl hg72 rfl ?_
  simp -implicitDefEqProofs (disch := omega) only [↓ZD,ZP,cnd_t,cnd_f,↓reduceIte,Env.put,stepO,lenV,binV,binInt,unV,loadV,sliceV,boundOf,convV,slstrV,if_pos,if_neg,Int.reduceToNat,Nat.reducePow,V.cells,V.isCell,V.boxable,Nat.reduceEqDiff,reduceCtorEq,reduceIte,ite_self,enterEnv,e0,fillL,evParts,splice,List.take_zero,List.take_succ_cons,List.drop_succ_cons,List.drop_zero,List.drop_nil,nf,nsl]
  refine calP_ro rfl hgA (by simp [roL, V.ro, nl_ro, nsl_ro, nf_ro, nls_ro]) ?_
  generalize hA : natP ahead = A at *
  obtain ⟨a, ok⟩ := A
  simp -implicitDefEqProofs (disch := omega) only [↓ZD,ZP,cnd_t,cnd_f,↓reduceIte,Env.put,stepO,lenV,binV,binInt,unV,loadV,sliceV,boundOf,convV,slstrV,if_pos,if_neg,Int.reduceToNat,Nat.reducePow,V.cells,V.isCell,V.boxable,Nat.reduceEqDiff,reduceCtorEq,reduceIte,ite_self,enterEnv,e0,fillL,evParts,splice,List.take_zero,List.take_succ_cons,List.drop_succ_cons,List.drop_zero,List.drop_nil,nf,nsl]
  refine calP_ro rfl hgB (by simp [roL, V.ro, nl_ro, nsl_ro, nf_ro, nls_ro]) ?_
  generalize hB : natP behind = B at *
  obtain ⟨b, fine⟩ := B
  simp only at *
  simp -implicitDefEqProofs (disch := omega) only [↓ZD,ZP,cnd_t,cnd_f,↓reduceIte,Env.put,stepO,lenV,binV,binInt,unV,loadV,sliceV,boundOf,convV,slstrV,if_pos,if_neg,Int.reduceToNat,Nat.reducePow,V.cells,V.isCell,V.boxable,Nat.reduceEqDiff,reduceCtorEq,reduceIte,ite_self,enterEnv,e0,fillL,evParts,splice,List.take_zero,List.take_succ_cons,List.drop_succ_cons,List.drop_zero,List.drop_nil,nf,nsl]
  refine calP_ro rfl good18 (nf_ro _) ?_
  have hla := lim_ten hb1
  have hlb := lim_ten hb2
  have hbz := lim_nil_len (n := b)
  have hrb := rn_len behind
  by_cases h1 : ok = false
  · rw [if_pos (.inl h1)]
    subst h1
    simp -implicitDefEqProofs (disch := omega) only [↓ZD,ZP,cnd_t,cnd_f,↓reduceIte,Env.put,stepO,lenV,binV,binInt,unV,loadV,sliceV,boundOf,convV,slstrV,if_pos,if_neg,Int.reduceToNat,Nat.reducePow,V.cells,V.isCell,V.boxable,Nat.reduceEqDiff,reduceCtorEq,reduceIte,ite_self,enterEnv,e0,fillL,evParts,splice,List.take_zero,List.take_succ_cons,List.drop_succ_cons,List.drop_zero,List.drop_nil,nf,nsl]
    refine gives_eq (by simp [roL, V.ro, nl_ro, nsl_ro, nf_ro, nls_ro]) ?_
    rw [← rv0]; rfl
  have hok : ok = true := by simpa using h1
  subst hok
  by_cases h2 : mark ≠ 0 ∧ fine = false
  · rw [if_pos (.inr (.inl h2))]
    obtain ⟨h2, rfl⟩ := h2
    simp -implicitDefEqProofs (disch := omega) only [↓ZD,ZP,cnd_t,cnd_f,↓reduceIte,Env.put,stepO,lenV,binV,binInt,unV,loadV,sliceV,boundOf,convV,slstrV,if_pos,if_neg,Int.reduceToNat,Nat.reducePow,V.cells,V.isCell,V.boxable,Nat.reduceEqDiff,reduceCtorEq,reduceIte,ite_self,enterEnv,e0,fillL,evParts,splice,List.take_zero,List.take_succ_cons,List.drop_succ_cons,List.drop_zero,List.drop_nil,nf,nsl]
    refine gives_eq (by simp [roL, V.ro, nl_ro, nsl_ro, nf_ro, nls_ro]) ?_
    rw [← rv0]; rfl
  by_cases h3 : mark = 114 ∧ b = 0
  · rw [if_pos (.inr (.inr h3))]
    obtain ⟨h3, h4⟩ := h3
    have h5 := hbz.2 h4
    cases fine with
    | false => exact absurd ⟨by omega, rfl⟩ h2
    | true =>
      simp -implicitDefEqProofs (disch := omega) only [↓ZD,ZP,cnd_t,cnd_f,↓reduceIte,Env.put,stepO,lenV,binV,binInt,unV,loadV,sliceV,boundOf,convV,slstrV,if_pos,if_neg,Int.reduceToNat,Nat.reducePow,V.cells,V.isCell,V.boxable,Nat.reduceEqDiff,reduceCtorEq,reduceIte,ite_self,enterEnv,e0,fillL,evParts,splice,List.take_zero,List.take_succ_cons,List.drop_succ_cons,List.drop_zero,List.drop_nil,nf,nsl]
      refine gives_eq (by simp [roL, V.ro, nl_ro, nsl_ro, nf_ro, nls_ro]) ?_
      rw [← rv0]; rfl
  rw [if_neg (by rintro (h | h | h); exact absurd h (by decide); exact h2 h; exact h3 h)]
  by_cases h4 : mark = 114
  · have h5 : (lim b).length ≠ 0 := fun h => h3 ⟨h4, hbz.1 h⟩
    rw [if_pos h4]
    have hm0 : mark ≠ 0 := by omega
    have hf : fine = true := by
      cases fine with
      | false => exact absurd ⟨hm0, rfl⟩ h2
      | true => rfl
    subst hf
    have hg := good76 false false below (lim a) (lim b) (lim_lm _) (lim_lm _) (by omega) (by omega)
    rw [lim_val, lim_val] at hg
    obtain ⟨b', x, y, m, hl⟩ := makeR_agg below a b
    rw [hl, pairV, rv] at hg
    rw [hl]
    simp -implicitDefEqProofs (disch := omega) only [↓ZD,ZP,cnd_t,cnd_f,↓reduceIte,Env.put,stepO,lenV,binV,binInt,unV,loadV,sliceV,boundOf,convV,slstrV,if_pos,if_neg,Int.reduceToNat,Nat.reducePow,V.cells,V.isCell,V.boxable,Nat.reduceEqDiff,reduceCtorEq,reduceIte,ite_self,enterEnv,e0,fillL,evParts,splice,List.take_zero,List.take_succ_cons,List.drop_succ_cons,List.drop_zero,List.drop_nil,nf,nsl]
    refine calP_ro (by simp [roL, V.ro, nl_ro, nsl_ro, nf_ro, nls_ro]) hg (by simp [roL, V.ro, nl_ro, nsl_ro, nf_ro, nls_ro]) ?_
    simp -implicitDefEqProofs (disch := omega) only [↓ZD,ZP,cnd_t,cnd_f,↓reduceIte,Env.put,stepO,lenV,binV,binInt,unV,loadV,sliceV,boundOf,convV,slstrV,if_pos,if_neg,Int.reduceToNat,Nat.reducePow,V.cells,V.isCell,V.boxable,Nat.reduceEqDiff,reduceCtorEq,reduceIte,ite_self,enterEnv,e0,fillL,evParts,splice,List.take_zero,List.take_succ_cons,List.drop_succ_cons,List.drop_zero,List.drop_nil,nf,nsl]
    exact gives_eq (by simp [roL, V.ro, nl_ro, nsl_ro, nf_ro, nls_ro]) rfl
  rw [if_neg h4]
  by_cases h5 : mark = 46
  · rw [if_pos h5]
    have hm0 : mark ≠ 0 := by omega
    have hf : fine = true := by
      cases fine with
      | false => exact absurd ⟨hm0, rfl⟩ h2
      | true => rfl
    subst hf
    simp -implicitDefEqProofs (disch := omega) only [↓ZD,ZP,cnd_t,cnd_f,↓reduceIte,Env.put,stepO,lenV,binV,binInt,unV,loadV,sliceV,boundOf,convV,slstrV,if_pos,if_neg,Int.reduceToNat,Nat.reducePow,V.cells,V.isCell,V.boxable,Nat.reduceEqDiff,reduceCtorEq,reduceIte,ite_self,enterEnv,e0,fillL,evParts,splice,List.take_zero,List.take_succ_cons,List.drop_succ_cons,List.drop_zero,List.drop_nil,nf,nsl]
    refine go_loop (fun k e H => ∃ pos j ed, H = [.cells 0 0 true [.bool false, .sl true [] 0, .sl true [] 0], .iter behind pos] ∧ pos ≤ behind.length ∧ k = behind.length - pos ∧ j + (rn (behind.drop pos)).length = (rn behind).length ∧
        e 2 = .cell 0 0 0 ∧ e 4 = .bool below ∧ e 8 = nf (lim a) ∧ e 10 = nf (lim b) ∧ e 12 = nsl ed (lim (10 ^ j)) ∧ e 64 = .cell 1 0 0)
      behind.length ⟨0, 0, false, rfl, Nat.zero_le _, rfl, by simp, ?_, ?_, ?_, ?_, ?_, ?_⟩ ?_
    · simp [Env.set]
    · simp [Env.set]
    · simp [Env.set, nf, nsl]
    · simp [Env.set, nf, nsl]
    · simp [Env.set, nf, nsl]
    · simp [Env.set]
    clear e0
    rintro k e H ⟨pos, j, ed, rfl, hpos, rfl, hj, e2, e4, e8, e10, e12, e64⟩
    have hp10 : 10 ^ j < 10 ^ (j + 1) := by rw [Nat.pow_succ]; have : 0 < 10 ^ j := Nat.pow_pos (by decide); omega
    have hl10 := lim_ten hp10
    rcases Nat.lt_or_ge pos behind.length with hlt | hge
    · obtain ⟨d1, d2, d3⟩ := drop_dec hlt
      obtain ⟨c, w, hd⟩ : ∃ c w, decL (behind.drop pos) = (c, w) := ⟨_, _, rfl⟩
      simp only [hd] at d1 d2 d3
      rw [d3, List.length_cons] at hj
      simp -implicitDefEqProofs (disch := omega) only [↓ZD,ZP,cnd_t,cnd_f,↓reduceIte,Env.put,stepO,lenV,binV,binInt,unV,loadV,sliceV,boundOf,convV,slstrV,if_pos,if_neg,Int.reduceToNat,Nat.reducePow,V.cells,V.isCell,V.boxable,Nat.reduceEqDiff,reduceCtorEq,reduceIte,ite_self,enterEnv,e2,e4,e8,e10,e12,e64,hlt,hd,fillL,evParts,splice,List.take_zero,List.take_succ_cons,List.drop_succ_cons,List.drop_zero,List.drop_nil,nf,nsl]
      have hg := good74 true [(ed, lim (10 ^ j)), (true, [10])] (by
        intro p hp
        rcases List.mem_cons.1 hp with rfl | hp
        · exact lim_lm _
        · rw [List.mem_singleton.1 hp]; intro x hx; simp at hx; omega) (by simp) (by
        intro A p Z hs
        cases A with
        | nil =>
          simp only [List.nil_append,List.cons.injEq] at hs
          obtain ⟨rfl, -⟩ := hs
          have h1 : lim 1 = [1] := by rw [lim_pos (by decide)]; simp [lim_zero]
          simp only [prodL,List.foldl_nil,h1,List.length_singleton]
          omega
        | cons q A =>
          simp only [List.cons_append,List.cons.injEq] at hs
          obtain ⟨rfl, hs⟩ := hs
          cases A with
          | nil =>
            simp only [List.nil_append,List.cons.injEq] at hs
            obtain ⟨rfl, -⟩ := hs
            simp only [prodL,List.foldl_cons,List.foldl_nil,lim_val,Nat.one_mul,List.length_singleton]
            omega
          | cons q2 A => simp at hs)
      have hv : prodL 1 [(ed, lim (10 ^ j)), (true, [10])] = 10 ^ (j + 1) := by
        simp [prodL, lim_val, val, Nat.pow_succ]
      rw [hv] at hg
      refine calP_ro (by simp [roL, V.ro, nl_ro, nsl_ro, nf_ro, nls_ro]) hg (nf_ro _) ?_
      simp -implicitDefEqProofs (disch := omega) only [↓ZD,ZP,cnd_t,cnd_f,↓reduceIte,Env.put,stepO,lenV,binV,binInt,unV,loadV,sliceV,boundOf,convV,slstrV,if_pos,if_neg,Int.reduceToNat,Nat.reducePow,V.cells,V.isCell,V.boxable,Nat.reduceEqDiff,reduceCtorEq,reduceIte,ite_self,enterEnv,e2,e4,e8,e10,e12,e64,fillL,evParts,splice,List.take_zero,List.take_succ_cons,List.drop_succ_cons,List.drop_zero,List.drop_nil,nf,nsl]
      exact ⟨_, by omega, pos + w, j + 1, false, rfl, d2, rfl, by omega, rfl⟩
    · have hnl : ¬ pos < behind.length := by omega
      rw [List.drop_of_length_le hge, rn_nil, List.length_nil, Nat.add_zero] at hj
      subst hj
      have hlen2 : ahead.length + behind.length ≤ 2800 := by omega
      have hl1 : (lim 1).length = 1 := by rw [lim_pos (by decide)]; simp [lim_zero]
      generalize hJ : (rn behind).length = J at *
      have hlJ : (lim (10 ^ J)).length ≤ J + 1 := by omega
      have hprod : a * 10 ^ J < 10 ^ (ahead.length + J) := by
        rw [Nat.pow_add]
        exact Nat.mul_lt_mul_of_pos_right hb1 (Nat.pow_pos (by decide))
      have hlp := lim_ten hprod
      have hsum : a * 10 ^ J + b < 10 ^ (ahead.length + behind.length + 1) := by
        have h1 : 10 ^ (ahead.length + J) ≤ 10 ^ (ahead.length + behind.length) := Nat.pow_le_pow_right (by decide) (by omega)
        have h2 : 10 ^ behind.length ≤ 10 ^ (ahead.length + behind.length) := Nat.pow_le_pow_right (by decide) (by omega)
        rw [Nat.pow_succ]
        omega
      have hls := lim_ten hsum
      have hg1 := good74 true [(false, lim a), (ed, lim (10 ^ J))] (by
        intro p hp
        rcases List.mem_cons.1 hp with rfl | hp
        · exact lim_lm _
        · rw [List.mem_singleton.1 hp]; exact lim_lm _) (by simp) (by
        intro A p Z hs
        cases A with
        | nil =>
          simp only [List.nil_append,List.cons.injEq] at hs
          obtain ⟨rfl, -⟩ := hs
          simp only [prodL,List.foldl_nil,hl1]
          omega
        | cons q A =>
          simp only [List.cons_append,List.cons.injEq] at hs
          obtain ⟨rfl, hs⟩ := hs
          cases A with
          | nil =>
            simp only [List.nil_append,List.cons.injEq] at hs
            obtain ⟨rfl, -⟩ := hs
            simp only [prodL,List.foldl_cons,List.foldl_nil,lim_val,Nat.one_mul]
            refine ⟨by omega, by omega, ?_⟩
            exact Nat.le_trans (Nat.mul_le_mul (Nat.le_trans hla (show ahead.length ≤ 2800 by omega)) (Nat.le_trans hlJ (show J + 1 ≤ 2801 by omega))) (by decide)
          | cons q2 A => simp at hs)
      have hv1 : prodL 1 [(false, lim a), (ed, lim (10 ^ J))] = a * 10 ^ J := by
        simp [prodL, lim_val]
      rw [hv1] at hg1
      have hg2 := good75 true [(false, lim (a * 10 ^ J)), (false, lim b)] (by
        intro p hp
        rcases List.mem_cons.1 hp with rfl | hp
        · exact ⟨lim_lm _, by simp only; omega⟩
        · rw [List.mem_singleton.1 hp]; exact ⟨lim_lm _, by simp only; omega⟩) (by simp)
      simp only [List.map_cons,List.map_nil,List.sum_cons,List.sum_nil,lim_val,Nat.add_zero] at hg2
      have hg := good76 false ed below (lim (a * 10 ^ J + b)) (lim (10 ^ J)) (lim_lm _) (lim_lm _) (by omega) (by omega)
      rw [lim_val, lim_val] at hg
      obtain ⟨b', x, y, m, hl⟩ := makeR_agg below (a * 10 ^ J + b) (10 ^ J)
      rw [hl, pairV, rv] at hg
      rw [hl]
      generalize lim (a * 10 ^ J + b) = S at *
      generalize lim (a * 10 ^ J) = PR at *
      generalize lim (10 ^ J) = DN at *
      simp -implicitDefEqProofs (disch := omega) only [↓ZD,ZP,cnd_t,cnd_f,↓reduceIte,Env.put,stepO,lenV,binV,binInt,unV,loadV,sliceV,boundOf,convV,slstrV,if_pos,if_neg,Int.reduceToNat,Nat.reducePow,V.cells,V.isCell,V.boxable,Nat.reduceEqDiff,reduceCtorEq,reduceIte,ite_self,enterEnv,e2,e4,e8,e10,e12,e64,hnl,fillL,evParts,splice,List.take_zero,List.take_succ_cons,List.drop_succ_cons,List.drop_zero,List.drop_nil,nf,nsl]
      refine calP_ro (by simp [roL, V.ro, nl_ro, nsl_ro, nf_ro, nls_ro]) hg1 (nf_ro _) ?_
      simp -implicitDefEqProofs (disch := omega) only [↓ZD,ZP,cnd_t,cnd_f,↓reduceIte,Env.put,stepO,lenV,binV,binInt,unV,loadV,sliceV,boundOf,convV,slstrV,if_pos,if_neg,Int.reduceToNat,Nat.reducePow,V.cells,V.isCell,V.boxable,Nat.reduceEqDiff,reduceCtorEq,reduceIte,ite_self,enterEnv,e2,e4,e8,e10,e12,e64,fillL,evParts,splice,List.take_zero,List.take_succ_cons,List.drop_succ_cons,List.drop_zero,List.drop_nil,nf,nsl]
      refine calP_ro (by simp [roL, V.ro, nl_ro, nsl_ro, nf_ro, nls_ro]) hg2 (nf_ro _) ?_
      simp -implicitDefEqProofs (disch := omega) only [↓ZD,ZP,cnd_t,cnd_f,↓reduceIte,Env.put,stepO,lenV,binV,binInt,unV,loadV,sliceV,boundOf,convV,slstrV,if_pos,if_neg,Int.reduceToNat,Nat.reducePow,V.cells,V.isCell,V.boxable,Nat.reduceEqDiff,reduceCtorEq,reduceIte,ite_self,enterEnv,e2,e4,e8,e10,e12,e64,fillL,evParts,splice,List.take_zero,List.take_succ_cons,List.drop_succ_cons,List.drop_zero,List.drop_nil,nf,nsl]
      refine calP_ro (by simp [roL, V.ro, nl_ro, nsl_ro, nf_ro, nls_ro]) hg (by simp [roL, V.ro, nl_ro, nsl_ro, nf_ro, nls_ro]) ?_
      simp -implicitDefEqProofs (disch := omega) only [↓ZD,ZP,cnd_t,cnd_f,↓reduceIte,Env.put,stepO,lenV,binV,binInt,unV,loadV,sliceV,boundOf,convV,slstrV,if_pos,if_neg,Int.reduceToNat,Nat.reducePow,V.cells,V.isCell,V.boxable,Nat.reduceEqDiff,reduceCtorEq,reduceIte,ite_self,enterEnv,e2,e4,e8,e10,e12,e64,fillL,evParts,splice,List.take_zero,List.take_succ_cons,List.drop_succ_cons,List.drop_zero,List.drop_nil,nf,nsl]
      exact gives_eq (by simp [roL, V.ro, nl_ro, nsl_ro, nf_ro, nls_ro]) rfl
  · rw [if_neg h5]
    have hg := good76 false false below (lim a) (lim 1) (lim_lm _) (lim_lm _) (by omega) (by rw [lim_pos (by decide)]; simp [lim_zero])
    rw [lim_val, lim_val] at hg
    obtain ⟨b', x, y, m, hl⟩ := makeR_agg below a 1
    rw [hl, pairV, rv] at hg
    rw [hl]
    by_cases hm0 : mark = 0
    · simp -implicitDefEqProofs (disch := omega) only [↓ZD,ZP,cnd_t,cnd_f,↓reduceIte,Env.put,stepO,lenV,binV,binInt,unV,loadV,sliceV,boundOf,convV,slstrV,if_pos,if_neg,Int.reduceToNat,Nat.reducePow,V.cells,V.isCell,V.boxable,Nat.reduceEqDiff,reduceCtorEq,reduceIte,ite_self,enterEnv,e0,fillL,evParts,splice,List.take_zero,List.take_succ_cons,List.drop_succ_cons,List.drop_zero,List.drop_nil,nf,nsl]
      refine calP_ro (by simp [roL, V.ro, nl_ro, nsl_ro, nf_ro, nls_ro]) hg (by simp [roL, V.ro, nl_ro, nsl_ro, nf_ro, nls_ro]) ?_
      simp -implicitDefEqProofs (disch := omega) only [↓ZD,ZP,cnd_t,cnd_f,↓reduceIte,Env.put,stepO,lenV,binV,binInt,unV,loadV,sliceV,boundOf,convV,slstrV,if_pos,if_neg,Int.reduceToNat,Nat.reducePow,V.cells,V.isCell,V.boxable,Nat.reduceEqDiff,reduceCtorEq,reduceIte,ite_self,enterEnv,e0,fillL,evParts,splice,List.take_zero,List.take_succ_cons,List.drop_succ_cons,List.drop_zero,List.drop_nil,nf,nsl]
      exact gives_eq (by simp [roL, V.ro, nl_ro, nsl_ro, nf_ro, nls_ro]) rfl
    · have hf : fine = true := by
        cases fine with
        | false => exact absurd ⟨hm0, rfl⟩ h2
        | true => rfl
      subst hf
      simp -implicitDefEqProofs (disch := omega) only [↓ZD,ZP,cnd_t,cnd_f,↓reduceIte,Env.put,stepO,lenV,binV,binInt,unV,loadV,sliceV,boundOf,convV,slstrV,if_pos,if_neg,Int.reduceToNat,Nat.reducePow,V.cells,V.isCell,V.boxable,Nat.reduceEqDiff,reduceCtorEq,reduceIte,ite_self,enterEnv,e0,fillL,evParts,splice,List.take_zero,List.take_succ_cons,List.drop_succ_cons,List.drop_zero,List.drop_nil,nf,nsl]
      refine calP_ro (by simp [roL, V.ro, nl_ro, nsl_ro, nf_ro, nls_ro]) hg (by simp [roL, V.ro, nl_ro, nsl_ro, nf_ro, nls_ro]) ?_
      simp -implicitDefEqProofs (disch := omega) only [↓ZD,ZP,cnd_t,cnd_f,↓reduceIte,Env.put,stepO,lenV,binV,binInt,unV,loadV,sliceV,boundOf,convV,slstrV,if_pos,if_neg,Int.reduceToNat,Nat.reducePow,V.cells,V.isCell,V.boxable,Nat.reduceEqDiff,reduceCtorEq,reduceIte,ite_self,enterEnv,e0,fillL,evParts,splice,List.take_zero,List.take_succ_cons,List.drop_succ_cons,List.drop_zero,List.drop_nil,nf,nsl]
      exact gives_eq (by simp [roL, V.ro, nl_ro, nsl_ro, nf_ro, nls_ro]) rfl
end Fe
