/-
  Contracts; contracts; contracts: arrays that are the same; contracts. No condition.
-/
import Derived.Test.YtfpgfjmngkfdoaaGreatDoorFhA
set_option linter.unusedSimpArgs false
set_option linter.unusedVariables false
open Go Go.Proofs
namespace Fe
def b476 : C :=
 (.seq
 (.region false [
 oQ 2 (.mov (.c (.sl true [] 0))),
 oQ 3 (.mov (.c (.bool false)))])
 (.seq
 (.region false [
 oQ 4 (.mov (.c (.sl true [] 0)))])
 (.seq
 (.seq
 (.region false [
 oQ 5 (.mov (.c (.int .i64 0)))])
 (.block 0
 (.loop
 (.seq
 (.seq
 (.region false [
 oQ 6 (.mov (.t 5)),
 oQ 7 (.mov (.t 0)),
 oQ 8 (.len true (.t 7)),
 oQ 9 (.bin 0 .lss (.t 6) (.t 8))])
 (.cond (.t 9)
 .skip
 (.exit 0)))
 (.seq
 (.block 1
 (.seq
 (.seq
 (.region false [
 oQ 12 (.mov (.t 0)),
 oQ 13 (.mov (.t 5)),
 oQ 14 (.index (.t 12) (.t 13)),
 oQ 15 (.bin 0 .lss (.t 14) (.c (.int .u8 48))),
 oQ 16 (.mov (.t 15)),
 ⟨some 17, .op (.mov (.t 0)), some (16, false)⟩,
 ⟨some 18, .op (.mov (.t 5)), some (16, false)⟩,
 ⟨some 19, .op (.index (.t 17) (.t 18)), some (16, false)⟩,
 ⟨some 20, .op (.bin 0 .gtr (.t 19) (.c (.int .u8 57))), some (16, false)⟩,
 oQ 21 (.pick (.t 16) (.c (.bool true)) (.t 20))])
 (.cond (.t 21)
 (.seq
 (.region false [
 oQ 2 (.mov (.c (.sl true [] 0))),
 oQ 3 (.mov (.c (.bool false)))])
 .ret)
 .skip))
 (.region true [
 oQ 22 (.mov (.t 4)),
 oQ 23 (.mksl [.int .u32 0] 1 [(0, (1, .c (.int .u32 10)))]),
 ⟨some 24, .call true (.c (.fn 217 [] [])) [.t 22, .t 23], none⟩,
 oQ 25 (.mov (.t 0)),
 oQ 26 (.mov (.t 5)),
 oQ 27 (.index (.t 25) (.t 26)),
 oQ 28 (.bin 0 .sub (.t 27) (.c (.int .u8 48))),
 oQ 29 (.conv (.int .u64) (.t 28)),
 ⟨some 30, .call false (.c (.fn 268 [] [])) [.t 29], none⟩,
 ⟨some 31, .call false (.c (.fn 218 [] [])) [.t 24, .t 30], none⟩,
 oQ 4 (.mov (.t 31))])))
 (.region false [
 oQ 10 (.mov (.t 5)),
 oQ 11 (.bin 0 .add (.t 10) (.c (.int .i64 1))),
 oQ 5 (.mov (.t 11))]))))))
 (.seq
 (.region false [
 oQ 32 (.mov (.t 4)),
 oQ 33 (.mov (.t 0)),
 oQ 34 (.len true (.t 33)),
 oQ 35 (.bin 0 .gtr (.t 34) (.c (.int .i64 0))),
 oQ 2 (.mov (.t 32)),
 oQ 3 (.mov (.t 35))])
 .ret))))
def c476 : CF := ⟨36, 1, [.mov (.t 2), .mov (.t 3)], b476⟩
def b477 : C :=
 (.seq
 (.region false [
 oQ 6 (.box (.c (.agg [.bool false, .sl true [] 0, .sl true [] 0]))),
 oQ 7 (.mov (.c (.int .i64 0)))])
 (.seq
 (.region false [
 oQ 11 (.mov (.t 1)),
 ⟨some 12, .call false (.c (.fn 269 [] [])) [.t 11], none⟩,
 oQ 13 (.mov (.t 2)),
 ⟨some 14, .call false (.c (.fn 269 [] [])) [.t 13], none⟩,
 oQ 8 (.mov (.t 12)),
 oQ 9 (.mov (.t 14))])
 (.seq
 (.seq
 (.region false [
 oQ 15 (.mov (.t 9)),
 oQ 16 (.len false (.t 15)),
 oQ 17 (.bin 0 .eql (.t 16) (.c (.int .i64 0)))])
 (.cond (.t 17)
 (.seq
 (.region false [
 oQ 18 (.build [.bool false, .sl true [] 0, .sl true [] 0] []),
 ⟨none, .op (.store 3 (.t 6) (.t 18)), none⟩,
 oQ 7 (.mov (.c (.int .i64 22)))])
 .ret)
 .skip))
 (.seq
 (.region false [
 oQ 19 (.mov (.t 8)),
 oQ 20 (.mov (.t 9)),
 oQ 21 (.mksl [.sl true [] 0, .sl true [] 0] 2 [(0, (1, .t 19)), (1, (1, .t 20))]),
 ⟨some 22, .call false (.c (.fn 270 [] [])) [.t 21], none⟩,
 oQ 10 (.mov (.t 22))])
 (.seq
 (.region false [
 oQ 24 (.mov (.t 8)),
 oQ 25 (.mov (.t 10)),
 ⟨some 26, .call false (.c (.fn 271 [] [])) [.t 24, .t 25], none⟩,
 oQ 23 (.mov (.t 26)),
 oQ 27 (.extract (.t 23) 0),
 oQ 28 (.extract (.t 23) 1),
 oQ 29 (.extract (.t 23) 2),
 oQ 8 (.mov (.t 27))])
 (.seq
 (.region false [
 oQ 31 (.mov (.t 9)),
 oQ 32 (.mov (.t 10)),
 ⟨some 33, .call false (.c (.fn 271 [] [])) [.t 31, .t 32], none⟩,
 oQ 30 (.mov (.t 33)),
 oQ 34 (.extract (.t 30) 0),
 oQ 35 (.extract (.t 30) 1),
 oQ 36 (.extract (.t 30) 2),
 oQ 9 (.mov (.t 34))])
 (.seq
 (.seq
 (.region false [
 oQ 37 (.mov (.t 8)),
 oQ 38 (.len false (.t 37)),
 oQ 39 (.bin 0 .gtr (.t 38) (.c (.int .i64 32))),
 oQ 40 (.mov (.t 39)),
 ⟨some 41, .op (.mov (.t 9)), some (40, false)⟩,
 ⟨some 42, .op (.len false (.t 41)), some (40, false)⟩,
 ⟨some 43, .op (.bin 0 .gtr (.t 42) (.c (.int .i64 32))), some (40, false)⟩,
 oQ 44 (.pick (.t 40) (.c (.bool true)) (.t 43))])
 (.cond (.t 44)
 (.seq
 (.region false [
 oQ 45 (.build [.bool false, .sl true [] 0, .sl true [] 0] []),
 ⟨none, .op (.store 3 (.t 6) (.t 45)), none⟩,
 oQ 7 (.mov (.c (.int .i64 8)))])
 .ret)
 .skip))
 (.seq
 (.region false [
 oQ 46 (.mov (.t 0)),
 oQ 47 (.mov (.t 46)),
 ⟨some 48, .op (.mov (.t 8)), some (47, true)⟩,
 ⟨some 49, .op (.len false (.t 48)), some (47, true)⟩,
 ⟨some 50, .op (.bin 0 .gtr (.t 49) (.c (.int .i64 0))), some (47, true)⟩,
 oQ 51 (.pick (.t 47) (.t 50) (.c (.bool false))),
 oQ 52 (.mov (.t 8)),
 oQ 53 (.mov (.t 9)),
 oQ 54 (.build [.bool false, .sl true [] 0, .sl true [] 0] [(0, (1, .t 51)), (1, (1, .t 52)), (2, (1, .t 53))]),
 ⟨none, .op (.store 3 (.t 6) (.t 54)), none⟩,
 oQ 7 (.mov (.c (.int .i64 0)))])
 .ret))))))))
def c477 : CF := ⟨55, 3, [.load true 3 (.t 6), .mov (.t 7)], b477⟩
def b478 : C :=
 (.seq
 (.region false [
 oQ 0 (.mov (.c (.sl true [] 0)))])
 (.seq
 (.region false [
 oQ 1 (.mksl [.int .u32 0] 1 [(0, (1, .c (.int .u32 1)))]),
 oQ 0 (.mov (.t 1))])
 .ret))
def c478 : CF := ⟨2, 0, [.mov (.t 0)], b478⟩
theorem s476 : stripF Go.Proofs.Tryz.prog 214 = some c476 := by kernel_rfl
theorem s477 : stripF Go.Proofs.Tryz.prog 215 = some c477 := by kernel_rfl
theorem s478 : stripF Go.Proofs.Tryz.prog 216 = some c478 := by kernel_rfl

set_option maxHeartbeats 1000000 in
theorem good476 (s : List UInt8) (hs : s.length ≤ 4900) : Good Go.Proofs.Tryz.prog 214 [.str s] (.tup [nf (lim (natP s).1), .bool (natP s).2]) := by
  refine good_go mix s476 (Nat.le_of_ble_eq_true rfl) fun e he => ?_
  have e0 : e 0 = .str s := he 0
  clear he
  simp only [c476,b476, oQ]
  simp -implicitDefEqProofs (disch := omega) only [↓ZD,ZP,cnd_t,cnd_f,↓reduceIte,Env.put,stepO,lenV,binV,binInt,unV,loadV,sliceV,boundOf,convV,slstrV,if_pos,if_neg,Int.reduceToNat,Nat.reducePow,V.cells,V.isCell,V.boxable,Nat.reduceEqDiff,reduceCtorEq,reduceIte,ite_self,enterEnv,e0]
  refine go_loop (fun k e H => ∃ pre post n en, s = pre ++ post ∧ k = post.length ∧ n < 10 ^ pre.length ∧ decN n post = decN 0 s ∧ e 4 = nsl en (lim n) ∧ e 0 = .str s ∧ e 5 = .int .i64 (pre.length : Nat))
    s.length ⟨[], s, 0, true, rfl, rfl, by decide, rfl, ?_, ?_, ?_⟩ ?_
  · simp [Env.set, lim_zero, nsl, nl]
  · simp [Env.set, e0]
  · simp [Env.set]
  clear e0
  rintro k e H ⟨pre, post, n, en, hsp, rfl, hn, hdec, e4, e0, e5⟩
  have hpl : s.length = pre.length + post.length := by rw [hsp]; simp
  cases post with
  | nil =>
    simp only [List.length_nil,Nat.add_zero] at hpl
    cases s with
    | nil =>
      obtain rfl : pre = [] := by simpa using hsp
      simp -implicitDefEqProofs (disch := omega) only [↓ZD,ZP,cnd_t,cnd_f,↓reduceIte,Env.put,stepO,lenV,binV,binInt,unV,loadV,sliceV,boundOf,convV,slstrV,if_pos,if_neg,Int.reduceToNat,Nat.reducePow,V.cells,V.isCell,V.boxable,Nat.reduceEqDiff,reduceCtorEq,reduceIte,ite_self,enterEnv,e4,e0,e5,hpl]
      refine gives_eq (by simp [roL, V.ro, nl_ro, nsl_ro, nf_ro, nls_ro]) ?_
      rw [natP, ← hdec]
      rfl
    | cons c r =>
      simp only [List.length_cons] at hpl hs
      simp -implicitDefEqProofs (disch := omega) only [↓ZD,ZP,cnd_t,cnd_f,↓reduceIte,Env.put,stepO,lenV,binV,binInt,unV,loadV,sliceV,boundOf,convV,slstrV,if_pos,if_neg,Int.reduceToNat,Nat.reducePow,V.cells,V.isCell,V.boxable,Nat.reduceEqDiff,reduceCtorEq,reduceIte,ite_self,enterEnv,e4,e0,e5,hpl]
      refine gives_eq (by simp [roL, V.ro, nl_ro, nsl_ro, nf_ro, nls_ro]) ?_
      rw [natP, ← hdec]
      rfl
  | cons c post =>
    simp only [List.length_cons] at hpl
    have hat : s[pre.length]? = some c := by rw [hsp]; simp
    have hc := c.toNat_lt
    rw [decN] at hdec
    by_cases h1 : c.toNat < 48
    · rw [if_pos (.inl h1)] at hdec
      simp -implicitDefEqProofs (disch := omega) only [↓ZD,ZP,cnd_t,cnd_f,↓reduceIte,Env.put,stepO,lenV,binV,binInt,unV,loadV,sliceV,boundOf,convV,slstrV,if_pos,if_neg,Int.reduceToNat,Nat.reducePow,V.cells,V.isCell,V.boxable,Nat.reduceEqDiff,reduceCtorEq,reduceIte,ite_self,enterEnv,e4,e0,e5,hat]
      refine gives_eq rfl ?_
      rw [natP, ← hdec, lim_zero]; rfl
    · by_cases h2 : 57 < c.toNat
      · rw [if_pos (.inr h2)] at hdec
        simp -implicitDefEqProofs (disch := omega) only [↓ZD,ZP,cnd_t,cnd_f,↓reduceIte,Env.put,stepO,lenV,binV,binInt,unV,loadV,sliceV,boundOf,convV,slstrV,if_pos,if_neg,Int.reduceToNat,Nat.reducePow,V.cells,V.isCell,V.boxable,Nat.reduceEqDiff,reduceCtorEq,reduceIte,ite_self,enterEnv,e4,e0,e5,hat]
        refine gives_eq rfl ?_
        rw [natP, ← hdec, lim_zero]; rfl
      · rw [if_neg (by omega)] at hdec
        have hl := lim_ten hn
        have hg := good479 en true (lim n) [10] (lim_lm _) (by intro x hx; simp at hx; omega) (by omega) (by simp)
        rw [lim_val, show val [10] = 10 from rfl] at hg
        have hg2 := good511 (c.toNat - 48) (by omega)
        have h10 : n * 10 < 10 ^ (pre.length + 1) := by rw [Nat.pow_succ]; omega
        have hg3 := good480 false false (lim (n * 10)) (lim (c.toNat - 48)) (lim_lm _) (lim_lm _) (by have := lim_ten h10; omega) (Nat.le_trans (lim_len (k := 1) (by omega)) (by decide))
        rw [lim_val, lim_val] at hg3
        have hsub : ((c.toNat : Int) - 48) = ((c.toNat - 48 : Nat) : Int) := by omega
        generalize hcn : c.toNat = cn at *
        simp -implicitDefEqProofs (disch := omega) only [↓ZD,ZP,cnd_t,cnd_f,↓reduceIte,Env.put,stepO,lenV,binV,binInt,unV,loadV,sliceV,boundOf,convV,slstrV,if_pos,if_neg,Int.reduceToNat,Nat.reducePow,V.cells,V.isCell,V.boxable,Nat.reduceEqDiff,reduceCtorEq,reduceIte,ite_self,enterEnv,e4,e0,e5,hat,hcn,fillL,evParts,splice,List.take_zero,List.take_succ_cons,List.drop_succ_cons,List.drop_zero,List.drop_nil]
        refine calD_ro (by simp only [roL,nsl_ro]; rfl) hg (nf_ro _) ?_
        simp -implicitDefEqProofs (disch := omega) only [↓ZD,ZP,cnd_t,cnd_f,↓reduceIte,Env.put,stepO,lenV,binV,binInt,unV,loadV,sliceV,boundOf,convV,slstrV,if_pos,if_neg,Int.reduceToNat,Nat.reducePow,V.cells,V.isCell,V.boxable,Nat.reduceEqDiff,reduceCtorEq,reduceIte,ite_self,enterEnv,e4,e0,e5,hat,hcn,fillL,evParts,splice,List.take_zero,List.take_succ_cons,List.drop_succ_cons,List.drop_zero,List.drop_nil,hsub,↓cells_nsl,↓cells_nf,↓box_nsl,↓box_nf,↓isc_nsl,↓isc_nf,↓len_nsl,↓len_nf]
        refine calP_ro rfl hg2 (nf_ro _) ?_
        simp -implicitDefEqProofs (disch := omega) only [↓ZD,ZP,cnd_t,cnd_f,↓reduceIte,Env.put,stepO,lenV,binV,binInt,unV,loadV,sliceV,boundOf,convV,slstrV,if_pos,if_neg,Int.reduceToNat,Nat.reducePow,V.cells,V.isCell,V.boxable,Nat.reduceEqDiff,reduceCtorEq,reduceIte,ite_self,enterEnv,e4,e0,e5,nf]
        refine calP_ro (by simp only [roL,nsl_ro]; rfl) hg3 (nf_ro _) ?_
        simp -implicitDefEqProofs (disch := omega) only [↓ZD,ZP,cnd_t,cnd_f,↓reduceIte,Env.put,stepO,lenV,binV,binInt,unV,loadV,sliceV,boundOf,convV,slstrV,if_pos,if_neg,Int.reduceToNat,Nat.reducePow,V.cells,V.isCell,V.boxable,Nat.reduceEqDiff,reduceCtorEq,reduceIte,ite_self,enterEnv,e4,e0,e5,nf]
        refine ⟨post.length, by simp, pre ++ [c], post, n * 10 + (cn - 48), false, by rw [hsp]; simp, rfl, ?_, hdec, rfl, by simp⟩
        rw [List.length_append, List.length_singleton, Nat.pow_succ]; omega

theorem good478 : Good Go.Proofs.Tryz.prog 216 [] (nf (lim 1)) := by
  refine good_go mix s478 (Nat.le_of_ble_eq_true rfl) fun e he => ?_
  clear he
  simp only [c478,b478, oQ]
  simp -implicitDefEqProofs (disch := omega) only [↓ZD,ZP,cnd_t,cnd_f,↓reduceIte,Env.put,stepO,lenV,binV,binInt,unV,loadV,sliceV,boundOf,convV,slstrV,if_pos,if_neg,Int.reduceToNat,Nat.reducePow,V.cells,V.isCell,V.boxable,Nat.reduceEqDiff,reduceCtorEq,reduceIte,ite_self,enterEnv,fillL,evParts,splice,List.take_zero,List.take_succ_cons,List.drop_succ_cons,List.drop_zero,List.drop_nil]
  have h1 : lim 1 = [1] := by rw [lim_pos (by decide)]; simp [lim_zero]
  rw [h1]
  exact gives_eq rfl rfl

set_option maxHeartbeats 1000000 in
theorem good477 (ea eb below : Bool) (a b : List Nat) (ha : Lm a) (hb : Lm b) (hla : a.length ≤ 50000) (hlb : b.length ≤ 50000) :
    Good Go.Proofs.Tryz.prog 215 [.bool below, nsl ea a, nsl eb b] (pairV (makeR below (val a) (val b))) := by
  refine good_go mix s477 (Nat.le_of_ble_eq_true rfl) fun e he => ?_
  have e0 : e 0 = .bool below := he 0
  have e1 : e 1 = nsl ea a := he 1
  have e2 : e 2 = nsl eb b := he 2
  clear he
  simp only [c477,b477, oQ]
  simp -implicitDefEqProofs (disch := omega) only [↓ZD,ZP,cnd_t,cnd_f,↓reduceIte,Env.put,stepO,lenV,binV,binInt,unV,loadV,sliceV,boundOf,convV,slstrV,if_pos,if_neg,Int.reduceToNat,Nat.reducePow,V.cells,V.isCell,V.boxable,Nat.reduceEqDiff,reduceCtorEq,reduceIte,ite_self,enterEnv,e0,e1,e2,fillL,evParts,splice,List.take_zero,List.take_succ_cons,List.drop_succ_cons,List.drop_zero,List.drop_nil,nf,nsl]
  refine calP_ro (nl_ro_1 _ _) (lim512 ea a ha (by omega)) (nf_ro _) ?_
  simp -implicitDefEqProofs (disch := omega) only [↓ZD,ZP,cnd_t,cnd_f,↓reduceIte,Env.put,stepO,lenV,binV,binInt,unV,loadV,sliceV,boundOf,convV,slstrV,if_pos,if_neg,Int.reduceToNat,Nat.reducePow,V.cells,V.isCell,V.boxable,Nat.reduceEqDiff,reduceCtorEq,reduceIte,ite_self,enterEnv,e0,e1,e2,fillL,evParts,splice,List.take_zero,List.take_succ_cons,List.drop_succ_cons,List.drop_zero,List.drop_nil,nf,nsl]
  refine calP_ro (nl_ro_1 _ _) (lim512 eb b hb (by omega)) (nf_ro _) ?_
  have hal : (lim (val a)).length ≤ 50000 := Nat.le_trans (lim_len (val_lt ha)) hla
  have hbl : (lim (val b)).length ≤ 50000 := Nat.le_trans (lim_len (val_lt hb)) hlb
  generalize val a = A at *
  generalize val b = B at *
  rw [makeR]
  by_cases hB : B = 0
  · subst hB
    rw [if_pos rfl]
    rw [lim_zero]
    simp -implicitDefEqProofs (disch := omega) only [↓ZD,ZP,cnd_t,cnd_f,↓reduceIte,Env.put,stepO,lenV,binV,binInt,unV,loadV,sliceV,boundOf,convV,slstrV,if_pos,if_neg,Int.reduceToNat,Nat.reducePow,V.cells,V.isCell,V.boxable,Nat.reduceEqDiff,reduceCtorEq,reduceIte,ite_self,enterEnv,e0,e1,e2,fillL,evParts,splice,List.take_zero,List.take_succ_cons,List.drop_succ_cons,List.drop_zero,List.drop_nil,nf,nsl,nl_nil]
    refine gives_eq (by simp [roL, V.ro, nl_ro, nsl_ro, nf_ro, nls_ro]) ?_
    rw [pairV, ← rv0]; rfl
  have hBp : 0 < (lim B).length := Nat.pos_of_ne_zero ((not_congr lim_nil_len).2 hB)
  rw [if_neg hB, lowR]
  have hg := good513 true [(false, lim A), (false, lim B)] (by
    intro p hp
    rcases List.mem_cons.1 hp with rfl | hp
    · exact ⟨lim_lm _, by simp only; omega⟩
    · rw [List.mem_singleton.1 hp]; exact ⟨lim_lm _, by simp only; omega⟩) (by simp)
  have hgc : gcdL 0 [(false, lim A), (false, lim B)] = Nat.gcd A B := by simp [gcdL, lim_val]
  rw [hgc] at hg
  have hg0 : Nat.gcd A B ≠ 0 := by
    have := Nat.gcd_pos_of_pos_right A (show 0 < B by omega)
    omega
  have hgl : (lim (Nat.gcd A B)).length ≤ 50000 := Nat.le_trans (lim_mono (Nat.gcd_le_right _ (by omega))) hbl
  have hd1 := good514 false false (lim A) (lim (Nat.gcd A B)) (lim_lm _) (lim_lm _) (by omega) (by omega)
  have hd2 := good514 false false (lim B) (lim (Nat.gcd A B)) (lim_lm _) (lim_lm _) (by omega) (by omega)
  rw [lim_val, lim_val, divR, if_neg hg0] at hd1 hd2
  rw [if_neg hg0]
  generalize Nat.gcd A B = g at *
  simp -implicitDefEqProofs (disch := omega) only [↓ZD,ZP,cnd_t,cnd_f,↓reduceIte,Env.put,stepO,lenV,binV,binInt,unV,loadV,sliceV,boundOf,convV,slstrV,if_pos,if_neg,Int.reduceToNat,Nat.reducePow,V.cells,V.isCell,V.boxable,Nat.reduceEqDiff,reduceCtorEq,reduceIte,ite_self,enterEnv,e0,e1,e2,fillL,evParts,splice,List.take_zero,List.take_succ_cons,List.drop_succ_cons,List.drop_zero,List.drop_nil,nf,nsl]
  refine calP_ro (nls1_ro (ex := true) (L := [(false, lim A), (false, lim B)]) (n := 2)) hg (nf_ro _) ?_
  simp -implicitDefEqProofs (disch := omega) only [↓ZD,ZP,cnd_t,cnd_f,↓reduceIte,Env.put,stepO,lenV,binV,binInt,unV,loadV,sliceV,boundOf,convV,slstrV,if_pos,if_neg,Int.reduceToNat,Nat.reducePow,V.cells,V.isCell,V.boxable,Nat.reduceEqDiff,reduceCtorEq,reduceIte,ite_self,enterEnv,e0,e1,e2,fillL,evParts,splice,List.take_zero,List.take_succ_cons,List.drop_succ_cons,List.drop_zero,List.drop_nil,nf,nsl]
  refine calP_ro (by simp [roL, V.ro, nl_ro, nsl_ro, nf_ro, nls_ro]) hd1 (by simp [roL, V.ro, nl_ro, nsl_ro, nf_ro, nls_ro]) ?_
  simp -implicitDefEqProofs (disch := omega) only [↓ZD,ZP,cnd_t,cnd_f,↓reduceIte,Env.put,stepO,lenV,binV,binInt,unV,loadV,sliceV,boundOf,convV,slstrV,if_pos,if_neg,Int.reduceToNat,Nat.reducePow,V.cells,V.isCell,V.boxable,Nat.reduceEqDiff,reduceCtorEq,reduceIte,ite_self,enterEnv,e0,e1,e2,fillL,evParts,splice,List.take_zero,List.take_succ_cons,List.drop_succ_cons,List.drop_zero,List.drop_nil,nf,nsl]
  refine calP_ro (by simp [roL, V.ro, nl_ro, nsl_ro, nf_ro, nls_ro]) hd2 (by simp [roL, V.ro, nl_ro, nsl_ro, nf_ro, nls_ro]) ?_
  have hx1 : (lim (A / g)).length ≤ 50000 := Nat.le_trans (lim_mono (Nat.div_le_self _ _)) hal
  have hy1 : (lim (B / g)).length ≤ 50000 := Nat.le_trans (lim_mono (Nat.div_le_self _ _)) hbl
  generalize A / g = x at *
  generalize B / g = y at *
  by_cases h1 : 32 < (lim x).length
  · rw [if_pos (.inl h1)]
    simp -implicitDefEqProofs (disch := omega) only [↓ZD,ZP,cnd_t,cnd_f,↓reduceIte,Env.put,stepO,lenV,binV,binInt,unV,loadV,sliceV,boundOf,convV,slstrV,if_pos,if_neg,Int.reduceToNat,Nat.reducePow,V.cells,V.isCell,V.boxable,Nat.reduceEqDiff,reduceCtorEq,reduceIte,ite_self,enterEnv,e0,e1,e2,fillL,evParts,splice,List.take_zero,List.take_succ_cons,List.drop_succ_cons,List.drop_zero,List.drop_nil,nf,nsl]
    refine gives_eq (by simp [roL, V.ro, nl_ro, nsl_ro, nf_ro, nls_ro]) ?_
    rw [pairV, ← rv0]; rfl
  · by_cases h2 : 32 < (lim y).length
    · rw [if_pos (.inr h2)]
      simp -implicitDefEqProofs (disch := omega) only [↓ZD,ZP,cnd_t,cnd_f,↓reduceIte,Env.put,stepO,lenV,binV,binInt,unV,loadV,sliceV,boundOf,convV,slstrV,if_pos,if_neg,Int.reduceToNat,Nat.reducePow,V.cells,V.isCell,V.boxable,Nat.reduceEqDiff,reduceCtorEq,reduceIte,ite_self,enterEnv,e0,e1,e2,fillL,evParts,splice,List.take_zero,List.take_succ_cons,List.drop_succ_cons,List.drop_zero,List.drop_nil,nf,nsl]
      refine gives_eq (by simp [roL, V.ro, nl_ro, nsl_ro, nf_ro, nls_ro]) ?_
      rw [pairV, ← rv0]; rfl
    · rw [if_neg (by omega)]
      cases below with
      | false =>
        simp -implicitDefEqProofs (disch := omega) only [↓ZD,ZP,cnd_t,cnd_f,↓reduceIte,Env.put,stepO,lenV,binV,binInt,unV,loadV,sliceV,boundOf,convV,slstrV,if_pos,if_neg,Int.reduceToNat,Nat.reducePow,V.cells,V.isCell,V.boxable,Nat.reduceEqDiff,reduceCtorEq,reduceIte,ite_self,enterEnv,e0,e1,e2,fillL,evParts,splice,List.take_zero,List.take_succ_cons,List.drop_succ_cons,List.drop_zero,List.drop_nil,nf,nsl]
        exact gives_eq (by simp [roL, V.ro, nl_ro, nsl_ro, nf_ro, nls_ro]) rfl
      | true =>
        by_cases h3 : 0 < (lim x).length
        · rw [decide_eq_true h3]
          simp -implicitDefEqProofs (disch := omega) only [↓ZD,ZP,cnd_t,cnd_f,↓reduceIte,Env.put,stepO,lenV,binV,binInt,unV,loadV,sliceV,boundOf,convV,slstrV,if_pos,if_neg,Int.reduceToNat,Nat.reducePow,V.cells,V.isCell,V.boxable,Nat.reduceEqDiff,reduceCtorEq,reduceIte,ite_self,enterEnv,e0,e1,e2,fillL,evParts,splice,List.take_zero,List.take_succ_cons,List.drop_succ_cons,List.drop_zero,List.drop_nil,nf,nsl]
          exact gives_eq (by simp [roL, V.ro, nl_ro, nsl_ro, nf_ro, nls_ro]) rfl
        · rw [decide_eq_false h3]
          simp -implicitDefEqProofs (disch := omega) only [↓ZD,ZP,cnd_t,cnd_f,↓reduceIte,Env.put,stepO,lenV,binV,binInt,unV,loadV,sliceV,boundOf,convV,slstrV,if_pos,if_neg,Int.reduceToNat,Nat.reducePow,V.cells,V.isCell,V.boxable,Nat.reduceEqDiff,reduceCtorEq,reduceIte,ite_self,enterEnv,e0,e1,e2,fillL,evParts,splice,List.take_zero,List.take_succ_cons,List.drop_succ_cons,List.drop_zero,List.drop_nil,nf,nsl]
          exact gives_eq (by simp [roL, V.ro, nl_ro, nsl_ro, nf_ro, nls_ro]) rfl
end Fe
open Go Go.Proofs
namespace Fe
def b439 : C :=
 (.seq
 (.region false [
 oQ 2 (.box (.c (.agg [.bool false, .sl true [] 0, .sl true [] 0]))),
 oQ 3 (.mov (.c (.int .i64 0)))])
 (.seq
 (.region false [
 oQ 4 (.mov (.c (.int .i64 0)))])
 (.seq
 (.seq
 (.region false [
 oQ 13 (.mov (.t 0)),
 oQ 14 (.range (.t 13))])
 (.block 0
 (.loop
 (.seq
 (.region false [
 oQ 15 (.next (.t 14)),
 oQ 16 (.extract (.t 15) 0)])
 (.seq
 (.cond (.t 16)
 .skip
 (.exit 0))
 (.block 1
 (.region false [
 oQ 17 (.mov (.t 4)),
 oQ 18 (.bin 0 .add (.t 17) (.c (.int .i64 1))),
 oQ 4 (.mov (.t 18))])))))))
 (.seq
 (.seq
 (.region false [
 oQ 19 (.mov (.t 4)),
 oQ 20 (.bin 0 .gtr (.t 19) (.c (.int .i64 700)))])
 (.cond (.t 20)
 (.seq
 (.region false [
 oQ 21 (.build [.bool false, .sl true [] 0, .sl true [] 0] []),
 ⟨none, .op (.store 3 (.t 2) (.t 21)), none⟩,
 oQ 3 (.mov (.c (.int .i64 8)))])
 .ret)
 .skip))
 (.seq
 (.region false [
 oQ 22 (.mov (.t 0)),
 oQ 23 (.len true (.t 22)),
 oQ 24 (.bin 0 .geq (.t 23) (.c (.int .i64 2))),
 oQ 25 (.mov (.t 24)),
 ⟨some 26, .op (.mov (.t 0)), some (25, true)⟩,
 ⟨some 27, .op (.slstr (.t 26) none (some (.c (.int .i64 2)))), some (25, true)⟩,
 ⟨some 28, .op (.bin 0 .eql (.t 27) (.c (.str [194, 175]))), some (25, true)⟩,
 oQ 29 (.pick (.t 25) (.t 28) (.c (.bool false))),
 oQ 5 (.mov (.t 29))])
 (.seq
 (.seq
 (.region false [
 oQ 30 (.mov (.t 5))])
 (.cond (.t 30)
 (.region false [
 oQ 31 (.mov (.t 0)),
 oQ 32 (.slstr (.t 31) (some (.c (.int .i64 2))) none),
 oQ 0 (.mov (.t 32))])
 .skip))
 (.seq
 (.region false [
 oQ 6 (.mov (.c (.int .i64 0)))])
 (.seq
 (.block 2
 (.loop
 (.seq
 (.seq
 (.region false [
 oQ 33 (.mov (.t 6)),
 oQ 34 (.mov (.t 0)),
 oQ 35 (.len true (.t 34)),
 oQ 36 (.bin 0 .lss (.t 33) (.t 35)),
 oQ 37 (.mov (.t 36)),
 ⟨some 38, .op (.mov (.t 0)), some (37, true)⟩,
 ⟨some 39, .op (.mov (.t 6)), some (37, true)⟩,
 ⟨some 40, .op (.index (.t 38) (.t 39)), some (37, true)⟩,
 ⟨some 41, .op (.bin 0 .neq (.t 40) (.c (.int .u8 46))), some (37, true)⟩,
 oQ 42 (.pick (.t 37) (.t 41) (.c (.bool false))),
 oQ 43 (.mov (.t 42)),
 ⟨some 44, .op (.mov (.t 0)), some (43, true)⟩,
 ⟨some 45, .op (.mov (.t 6)), some (43, true)⟩,
 ⟨some 46, .op (.index (.t 44) (.t 45)), some (43, true)⟩,
 ⟨some 47, .op (.bin 0 .neq (.t 46) (.c (.int .u8 114))), some (43, true)⟩,
 oQ 48 (.pick (.t 43) (.t 47) (.c (.bool false)))])
 (.cond (.t 48)
 .skip
 (.exit 2)))
 (.block 3
 (.region false [
 oQ 49 (.mov (.t 6)),
 oQ 50 (.bin 0 .add (.t 49) (.c (.int .i64 1))),
 oQ 6 (.mov (.t 50))])))))
 (.seq
 (.region false [
 oQ 52 (.mov (.t 0)),
 oQ 53 (.mov (.t 6)),
 oQ 54 (.slstr (.t 52) none (some (.t 53))),
 ⟨some 55, .call false (.c (.fn 214 [] [])) [.t 54], none⟩,
 oQ 51 (.mov (.t 55)),
 oQ 56 (.extract (.t 51) 0),
 oQ 57 (.extract (.t 51) 1),
 oQ 7 (.mov (.t 56)),
 oQ 8 (.mov (.t 57))])
 (.seq
 (.seq
 (.region false [
 oQ 58 (.mov (.t 8)),
 oQ 59 (.un .not (.t 58))])
 (.cond (.t 59)
 (.seq
 (.region false [
 oQ 60 (.build [.bool false, .sl true [] 0, .sl true [] 0] []),
 ⟨none, .op (.store 3 (.t 2) (.t 60)), none⟩,
 oQ 3 (.mov (.c (.int .i64 22)))])
 .ret)
 .skip))
 (.seq
 (.seq
 (.region false [
 oQ 61 (.mov (.t 6)),
 oQ 62 (.mov (.t 0)),
 oQ 63 (.len true (.t 62)),
 oQ 64 (.bin 0 .eql (.t 61) (.t 63))])
 (.cond (.t 64)
 (.seq
 (.region false [
 oQ 65 (.mov (.t 5)),
 oQ 66 (.mov (.t 7)),
 ⟨some 67, .call false (.c (.fn 216 [] [])) [], none⟩,
 ⟨some 68, .call false (.c (.fn 215 [] [])) [.t 65, .t 66, .t 67], none⟩,
 oQ 69 (.extract (.t 68) 0),
 oQ 70 (.extract (.t 68) 1),
 ⟨none, .op (.store 3 (.t 2) (.t 69)), none⟩,
 oQ 3 (.mov (.t 70))])
 .ret)
 .skip))
 (.seq
 (.region false [
 oQ 72 (.mov (.t 0)),
 oQ 73 (.mov (.t 6)),
 oQ 74 (.bin 0 .add (.t 73) (.c (.int .i64 1))),
 oQ 75 (.slstr (.t 72) (some (.t 74)) none),
 ⟨some 76, .call false (.c (.fn 214 [] [])) [.t 75], none⟩,
 oQ 71 (.mov (.t 76)),
 oQ 77 (.extract (.t 71) 0),
 oQ 78 (.extract (.t 71) 1),
 oQ 9 (.mov (.t 77)),
 oQ 10 (.mov (.t 78))])
 (.seq
 (.seq
 (.region false [
 oQ 79 (.mov (.t 10)),
 oQ 80 (.un .not (.t 79)),
 oQ 81 (.mov (.t 80)),
 ⟨some 82, .op (.mov (.t 0)), some (81, false)⟩,
 ⟨some 83, .op (.mov (.t 6)), some (81, false)⟩,
 ⟨some 84, .op (.index (.t 82) (.t 83)), some (81, false)⟩,
 ⟨some 85, .op (.bin 0 .eql (.t 84) (.c (.int .u8 114))), some (81, false)⟩,
 ⟨some 86, .op (.mov (.t 85)), some (81, false)⟩,
 ⟨some 87, .op (.mov (.t 9)), some (86, true)⟩,
 ⟨some 88, .op (.len false (.t 87)), some (86, true)⟩,
 ⟨some 89, .op (.bin 0 .eql (.t 88) (.c (.int .i64 0))), some (86, true)⟩,
 ⟨some 90, .op (.pick (.t 86) (.t 89) (.c (.bool false))), some (81, false)⟩,
 oQ 91 (.pick (.t 81) (.c (.bool true)) (.t 90))])
 (.cond (.t 91)
 (.seq
 (.region false [
 oQ 92 (.build [.bool false, .sl true [] 0, .sl true [] 0] []),
 ⟨none, .op (.store 3 (.t 2) (.t 92)), none⟩,
 oQ 3 (.mov (.c (.int .i64 22)))])
 .ret)
 .skip))
 (.seq
 (.seq
 (.region false [
 oQ 93 (.mov (.t 0)),
 oQ 94 (.mov (.t 6)),
 oQ 95 (.index (.t 93) (.t 94)),
 oQ 96 (.bin 0 .eql (.t 95) (.c (.int .u8 114)))])
 (.cond (.t 96)
 (.seq
 (.region false [
 oQ 97 (.mov (.t 5)),
 oQ 98 (.mov (.t 7)),
 oQ 99 (.mov (.t 9)),
 ⟨some 100, .call false (.c (.fn 215 [] [])) [.t 97, .t 98, .t 99], none⟩,
 oQ 101 (.extract (.t 100) 0),
 oQ 102 (.extract (.t 100) 1),
 ⟨none, .op (.store 3 (.t 2) (.t 101)), none⟩,
 oQ 3 (.mov (.t 102))])
 .ret)
 .skip))
 (.seq
 (.region false [
 ⟨some 103, .call false (.c (.fn 216 [] [])) [], none⟩,
 oQ 11 (.mov (.t 103))])
 (.seq
 (.seq
 (.region false [
 oQ 104 (.mov (.t 6)),
 oQ 105 (.bin 0 .add (.t 104) (.c (.int .i64 1))),
 oQ 12 (.mov (.t 105))])
 (.block 4
 (.loop
 (.seq
 (.seq
 (.region false [
 oQ 106 (.mov (.t 12)),
 oQ 107 (.mov (.t 0)),
 oQ 108 (.len true (.t 107)),
 oQ 109 (.bin 0 .lss (.t 106) (.t 108))])
 (.cond (.t 109)
 .skip
 (.exit 4)))
 (.seq
 (.block 5
 (.region false [
 oQ 112 (.mov (.t 11)),
 oQ 113 (.mksl [.int .u32 0] 1 [(0, (1, .c (.int .u32 10)))]),
 ⟨some 114, .call false (.c (.fn 217 [] [])) [.t 112, .t 113], none⟩,
 oQ 11 (.mov (.t 114))]))
 (.region false [
 oQ 110 (.mov (.t 12)),
 oQ 111 (.bin 0 .add (.t 110) (.c (.int .i64 1))),
 oQ 12 (.mov (.t 111))]))))))
 (.seq
 (.region false [
 oQ 115 (.mov (.t 5)),
 oQ 116 (.mov (.t 7)),
 oQ 117 (.mov (.t 11)),
 ⟨some 118, .call false (.c (.fn 217 [] [])) [.t 116, .t 117], none⟩,
 oQ 119 (.mov (.t 9)),
 ⟨some 120, .call false (.c (.fn 218 [] [])) [.t 118, .t 119], none⟩,
 oQ 121 (.mov (.t 11)),
 ⟨some 122, .call false (.c (.fn 215 [] [])) [.t 115, .t 120, .t 121], none⟩,
 oQ 123 (.extract (.t 122) 0),
 oQ 124 (.extract (.t 122) 1),
 ⟨none, .op (.store 3 (.t 2) (.t 123)), none⟩,
 oQ 3 (.mov (.t 124))])
 .ret)))))))))))))))))
def c439 : CF := ⟨125, 1, [.load true 3 (.t 2), .mov (.t 3)], b439⟩
def b481 : C :=
 (.seq
 (.region false [
 oQ 1 (.box (.t 0)),
 oQ 2 (.box (.c (.agg [.bool false, .sl true [] 0, .sl true [] 0])))])
 (.seq
 (.region false [
 oQ 4 (.faddr 0 (.t 1)),
 oQ 5 (.load false 1 (.t 4)),
 oQ 6 (.build [.bool false, .sl true [] 0, .sl true [] 0] [(0, (1, .t 5))]),
 oQ 3 (.box (.c (.agg [.bool false, .sl true [] 0, .sl true [] 0]))),
 ⟨none, .op (.store 3 (.t 3) (.t 6)), none⟩])
 (.seq
 (.region false [
 oQ 7 (.faddr 1 (.t 3)),
 oQ 8 (.load false 1 (.t 7)),
 oQ 9 (.faddr 1 (.t 1)),
 oQ 10 (.load false 1 (.t 9)),
 oQ 11 (.append 1 4 (.t 8) (.t 10)),
 oQ 12 (.faddr 1 (.t 3)),
 ⟨none, .op (.store 1 (.t 12) (.t 11)), none⟩])
 (.seq
 (.region false [
 oQ 13 (.faddr 2 (.t 3)),
 oQ 14 (.load false 1 (.t 13)),
 oQ 15 (.faddr 2 (.t 1)),
 oQ 16 (.load false 1 (.t 15)),
 oQ 17 (.append 1 4 (.t 14) (.t 16)),
 oQ 18 (.faddr 2 (.t 3)),
 ⟨none, .op (.store 1 (.t 18) (.t 17)), none⟩])
 (.seq
 (.region false [
 oQ 19 (.load true 3 (.t 3)),
 ⟨none, .op (.store 3 (.t 2) (.t 19)), none⟩])
 .ret)))))
def c481 : CF := ⟨20, 1, [.load true 3 (.t 2)], b481⟩
theorem s439 : stripF Go.Proofs.Tryz.prog 151 = some c439 := by kernel_rfl
theorem s481 : stripF Go.Proofs.Tryz.prog 219 = some c481 := by kernel_rfl

/-- The number of a text's bytes: ahead of the mark, and from it on. -/
def ratX (below : Bool) (U : List UInt8) : List UInt8 → V × Nat
  | [] => if (natP U).2 = false then (rv false 0 0, 22) else makeR below (natP U).1 1
  | M :: W => if (natP U).2 = false ∨ (natP W).2 = false ∨ (M.toNat = 114 ∧ (natP W).1 = 0) then (rv false 0 0, 22)
    else if M.toNat = 114 then makeR below (natP U).1 (natP W).1
    else makeR below ((natP U).1 * 10 ^ W.length + (natP W).1) (10 ^ W.length)

def sub439 : C := match b439 with
  | .seq _ (.seq _ (.seq _ (.seq _ (.seq _ (.seq _ r))))) => r
  | c => c

def markB (c : UInt8) : Prop := c.toNat = 46 ∨ c.toNat = 114
instance (c : UInt8) : Decidable (markB c) := inferInstanceAs (Decidable (_ ∨ _))

def boxR : HObj := .cells 0 0 true [.bool false, .sl true [] 0, .sl true [] 0]

set_option maxHeartbeats 4000000 in
theorem rest439 (below : Bool) (U R T : List UInt8) (x : HObj) (e : Env) (hT : T = U ++ R) (hU : ∀ c ∈ U, ¬ markB c) (hR : R = [] ∨ ∃ M W, R = M :: W ∧ markB M) (hl : T.length ≤ 4900) (e0 : e 0 = .str T) (e2 : e 2 = .cell 0 0 0) (e5 : e 5 = .bool below) :
    go Go.Proofs.Tryz.prog sub439 e [boxR, x] [] (Done [.load true 3 (.t 2), .mov (.t 3)] fun v H => Gives H v (pairV (ratX below U R))) := by
  simp only [sub439,b439, oQ]
  simp -implicitDefEqProofs (disch := omega) only [↓ZD,ZP,cnd_t,cnd_f,↓reduceIte,Env.put,stepO,lenV,binV,binInt,unV,loadV,sliceV,boundOf,convV,slstrV,if_pos,if_neg,Int.reduceToNat,Nat.reducePow,V.cells,V.isCell,V.boxable,Nat.reduceEqDiff,reduceCtorEq,reduceIte,ite_self,enterEnv,e0,e2,e5]
  refine go_loop (fun m e H => ∃ pre post, U = pre ++ post ∧ m = post.length ∧ H = [boxR, x] ∧ e 0 = .str T ∧ e 2 = .cell 0 0 0 ∧ e 5 = .bool below ∧ e 6 = .int .i64 (pre.length : Nat)) U.length
    ⟨[], U, rfl, rfl, rfl, ?_, ?_, ?_, ?_⟩ ?_
  · simp [Env.set, e0]
  · simp [Env.set, e2]
  · simp [Env.set, e5]
  · simp [Env.set]
  clear e0 e2 e5
  rintro m e H ⟨pre, post, hsp, rfl, rfl, e0, e2, e5, e6⟩
  cases post with
  | cons c post =>
    have hc := hU c (by rw [hsp]; simp)
    have hc1 : c.toNat ≠ 46 := fun h => hc (.inl h)
    have hc2 : c.toNat ≠ 114 := fun h => hc (.inr h)
    have hat : T[pre.length]? = some c := by rw [hT, hsp]; simp
    have hpl : T.length = pre.length + (post.length + 1) + R.length := by rw [hT, hsp]; simp; omega
    simp -implicitDefEqProofs (disch := omega) only [↓ZD,ZP,cnd_t,cnd_f,↓reduceIte,Env.put,stepO,lenV,binV,binInt,unV,loadV,sliceV,boundOf,convV,slstrV,if_pos,if_neg,Int.reduceToNat,Nat.reducePow,V.cells,V.isCell,V.boxable,Nat.reduceEqDiff,reduceCtorEq,reduceIte,ite_self,enterEnv,e0,e2,e5,e6,hat]
    exact ⟨post.length, by simp, pre ++ [c], post, by rw [hsp]; simp, rfl, by simp⟩
  | nil =>
    obtain rfl : pre = U := by rw [hsp]; simp
    clear hsp
    have hTl : T.length = pre.length + R.length := by rw [hT]; simp
    have hgU := good476 pre (by omega)
    have hbU := natP_lt pre
    have htk : T.take pre.length = pre := by rw [hT]; exact List.take_left
    have hz : (((pre.length : Nat) : Int) - ((0 : Nat) : Int)).toNat = pre.length := by omega
    have hla := lim_ten hbU
    rcases hR with rfl | ⟨M, W, rfl, hM⟩
    · simp only [List.length_nil,Nat.add_zero] at hTl
      generalize hA : natP pre = A at *
      obtain ⟨a, ok⟩ := A
      simp -implicitDefEqProofs (disch := omega) only [↓ZD,ZP,cnd_t,cnd_f,↓reduceIte,Env.put,stepO,lenV,binV,binInt,unV,loadV,sliceV,boundOf,convV,slstrV,if_pos,if_neg,Int.reduceToNat,Nat.reducePow,V.cells,V.isCell,V.boxable,Nat.reduceEqDiff,reduceCtorEq,reduceIte,ite_self,enterEnv,e0,e2,e5,e6,hz,htk,hTl,List.drop_zero]
      refine calP_ro rfl hgU (by simp [roL, V.ro, nl_ro, nsl_ro, nf_ro, nls_ro]) ?_
      cases ok with
      | false =>
        have hrx : ratX below pre [] = (rv false 0 0, 22) := by rw [ratX, hA, if_pos rfl]
        rw [hrx]
        simp -implicitDefEqProofs (disch := omega) only [↓ZD,ZP,cnd_t,cnd_f,↓reduceIte,Env.put,stepO,lenV,binV,binInt,unV,loadV,sliceV,boundOf,convV,slstrV,if_pos,if_neg,Int.reduceToNat,Nat.reducePow,V.cells,V.isCell,V.boxable,Nat.reduceEqDiff,reduceCtorEq,reduceIte,ite_self,enterEnv,e0,e2,e5,e6,boxR,fillL,evParts,splice,List.take_zero,List.take_succ_cons,List.drop_succ_cons,List.drop_zero,List.drop_nil,loadV,nf,nsl]
        refine gives_eq (by simp [roL, V.ro, nl_ro, nsl_ro, nf_ro, nls_ro]) ?_
        rw [pairV, ← rv0]; rfl
      | true =>
        have hrx : ratX below pre [] = makeR below a 1 := by rw [ratX, hA, if_neg (by simp)]
        rw [hrx]
        have hg := good477 false false below (lim a) (lim 1) (lim_lm _) (lim_lm _) (by simp only at hla; omega) (Nat.le_trans (lim_len (k := 1) (by decide)) (by decide))
        rw [lim_val, lim_val] at hg
        obtain ⟨b', x', y', m', hmk⟩ := makeR_agg below a 1
        rw [hmk] at hg ⊢
        simp -implicitDefEqProofs (disch := omega) only [↓ZD,ZP,cnd_t,cnd_f,↓reduceIte,Env.put,stepO,lenV,binV,binInt,unV,loadV,sliceV,boundOf,convV,slstrV,if_pos,if_neg,Int.reduceToNat,Nat.reducePow,V.cells,V.isCell,V.boxable,Nat.reduceEqDiff,reduceCtorEq,reduceIte,ite_self,enterEnv,e0,e2,e5,e6,boxR,fillL,evParts,splice,List.take_zero,List.take_succ_cons,List.drop_succ_cons,List.drop_zero,List.drop_nil,loadV,↓cells_nsl,↓cells_nf,↓box_nsl,↓box_nf,↓isc_nsl,↓isc_nf,↓len_nsl,↓len_nf,hTl]
        refine calP_ro rfl good478 (nf_ro _) ?_
        simp -implicitDefEqProofs (disch := omega) only [↓ZD,ZP,cnd_t,cnd_f,↓reduceIte,Env.put,stepO,lenV,binV,binInt,unV,loadV,sliceV,boundOf,convV,slstrV,if_pos,if_neg,Int.reduceToNat,Nat.reducePow,V.cells,V.isCell,V.boxable,Nat.reduceEqDiff,reduceCtorEq,reduceIte,ite_self,enterEnv,e0,e2,e5,e6,boxR,fillL,evParts,splice,List.take_zero,List.take_succ_cons,List.drop_succ_cons,List.drop_zero,List.drop_nil,loadV,↓cells_nsl,↓cells_nf,↓box_nsl,↓box_nf,↓isc_nsl,↓isc_nf,↓len_nsl,↓len_nf]
        refine calP_ro (by simp [roL, V.ro, nl_ro, nsl_ro, nf_ro, nls_ro]) hg (by simp [pairV, V.ro, roL, rv_ro]) ?_
        simp -implicitDefEqProofs (disch := omega) only [↓ZD,ZP,cnd_t,cnd_f,↓reduceIte,Env.put,stepO,lenV,binV,binInt,unV,loadV,sliceV,boundOf,convV,slstrV,if_pos,if_neg,Int.reduceToNat,Nat.reducePow,V.cells,V.isCell,V.boxable,Nat.reduceEqDiff,reduceCtorEq,reduceIte,ite_self,enterEnv,e0,e2,e5,e6,pairV,rv,boxR,fillL,evParts,splice,List.take_zero,List.take_succ_cons,List.drop_succ_cons,List.drop_zero,List.drop_nil,loadV,↓cells_nsl,↓cells_nf,↓box_nsl,↓box_nf,↓isc_nsl,↓isc_nf,↓len_nsl,↓len_nf]
        exact gives_eq (by simp [roL, V.ro, nl_ro, nsl_ro, nf_ro, nls_ro]) rfl
    · simp only [List.length_cons] at hTl
      have hgW := good476 W (by omega)
      have hbW := natP_lt W
      have hlb := lim_ten hbW
      have hat : T[pre.length]? = some M := by rw [hT]; simp
      have hdr : T.drop (pre.length + 1) = W := by
        rw [hT, ← List.drop_drop, List.drop_left]; rfl
      have hz2 : (((pre.length + (W.length + 1) : Nat) : Int) - ((pre.length + 1 : Nat) : Int)).toNat = W.length := by omega
      have htkW : W.take W.length = W := List.take_length
      generalize hA : natP pre = A at *
      obtain ⟨a, ok⟩ := A
      generalize hB : natP W = B at *
      obtain ⟨b, fine⟩ := B
      simp only at *
      have hM2 : (M.toNat = 46 ∧ M.toNat ≠ 114) ∨ (M.toNat = 114 ∧ M.toNat ≠ 46) := by rcases hM with h | h <;> omega
      rcases hM2 with ⟨h46, h114⟩ | ⟨h114, h46⟩
      · simp -implicitDefEqProofs (disch := omega) only [↓ZD,ZP,cnd_t,cnd_f,↓reduceIte,Env.put,stepO,lenV,binV,binInt,unV,loadV,sliceV,boundOf,convV,slstrV,if_pos,if_neg,Int.reduceToNat,Nat.reducePow,V.cells,V.isCell,V.boxable,Nat.reduceEqDiff,reduceCtorEq,reduceIte,ite_self,enterEnv,e0,e2,e5,e6,hz,htk,hTl,hat,h46,List.drop_zero]
        refine calP_ro rfl hgU (by simp [roL, V.ro, nl_ro, nsl_ro, nf_ro, nls_ro]) ?_
        cases ok with
        | false =>
          have hrx : ratX below pre (M :: W) = (rv false 0 0, 22) := by rw [ratX, hA, hB, if_pos (.inl rfl)]
          rw [hrx]
          simp -implicitDefEqProofs (disch := omega) only [↓ZD,ZP,cnd_t,cnd_f,↓reduceIte,Env.put,stepO,lenV,binV,binInt,unV,loadV,sliceV,boundOf,convV,slstrV,if_pos,if_neg,Int.reduceToNat,Nat.reducePow,V.cells,V.isCell,V.boxable,Nat.reduceEqDiff,reduceCtorEq,reduceIte,ite_self,enterEnv,e0,e2,e5,e6,boxR,fillL,evParts,splice,List.take_zero,List.take_succ_cons,List.drop_succ_cons,List.drop_zero,List.drop_nil,loadV,nf,nsl]
          refine gives_eq (by simp [roL, V.ro, nl_ro, nsl_ro, nf_ro, nls_ro]) ?_
          rw [pairV, ← rv0]; rfl
        | true =>
          simp -implicitDefEqProofs (disch := omega) only [↓ZD,ZP,cnd_t,cnd_f,↓reduceIte,Env.put,stepO,lenV,binV,binInt,unV,loadV,sliceV,boundOf,convV,slstrV,if_pos,if_neg,Int.reduceToNat,Nat.reducePow,V.cells,V.isCell,V.boxable,Nat.reduceEqDiff,reduceCtorEq,reduceIte,ite_self,enterEnv,e0,e2,e5,e6,hTl,hz2,hdr,htkW]
          refine calP_ro rfl hgW (by simp [roL, V.ro, nl_ro, nsl_ro, nf_ro, nls_ro]) ?_
          cases fine with
          | false =>
            have hrx : ratX below pre (M :: W) = (rv false 0 0, 22) := by rw [ratX, hA, hB, if_pos (.inr (.inl rfl))]
            rw [hrx]
            simp -implicitDefEqProofs (disch := omega) only [↓ZD,ZP,cnd_t,cnd_f,↓reduceIte,Env.put,stepO,lenV,binV,binInt,unV,loadV,sliceV,boundOf,convV,slstrV,if_pos,if_neg,Int.reduceToNat,Nat.reducePow,V.cells,V.isCell,V.boxable,Nat.reduceEqDiff,reduceCtorEq,reduceIte,ite_self,enterEnv,e0,e2,e5,e6,boxR,fillL,evParts,splice,List.take_zero,List.take_succ_cons,List.drop_succ_cons,List.drop_zero,List.drop_nil,loadV,nf,nsl]
            refine gives_eq (by simp [roL, V.ro, nl_ro, nsl_ro, nf_ro, nls_ro]) ?_
            rw [pairV, ← rv0]; rfl
          | true =>
            have hrx : ratX below pre (M :: W) = makeR below (a * 10 ^ W.length + b) (10 ^ W.length) := by
              rw [ratX, hA, hB, if_neg (by
                rintro (h | h | h)
                · cases h
                · cases h
                · exact h114 h.1), if_neg h114]
            rw [hrx]
            simp -implicitDefEqProofs (disch := omega) only [↓ZD,ZP,cnd_t,cnd_f,↓reduceIte,Env.put,stepO,lenV,binV,binInt,unV,loadV,sliceV,boundOf,convV,slstrV,if_pos,if_neg,Int.reduceToNat,Nat.reducePow,V.cells,V.isCell,V.boxable,Nat.reduceEqDiff,reduceCtorEq,reduceIte,ite_self,enterEnv,e0,e2,e5,e6,hTl,hat,h46,↓cells_nsl,↓cells_nf,↓box_nsl,↓box_nf,↓isc_nsl,↓isc_nf,↓len_nsl,↓len_nf]
            refine calP_ro rfl good478 (nf_ro _) ?_
            simp -implicitDefEqProofs (disch := omega) only [↓ZD,ZP,cnd_t,cnd_f,↓reduceIte,Env.put,stepO,lenV,binV,binInt,unV,loadV,sliceV,boundOf,convV,slstrV,if_pos,if_neg,Int.reduceToNat,Nat.reducePow,V.cells,V.isCell,V.boxable,Nat.reduceEqDiff,reduceCtorEq,reduceIte,ite_self,enterEnv,e0,e2,e5,e6,hTl,hat,h46,↓cells_nsl,↓cells_nf,↓box_nsl,↓box_nf,↓isc_nsl,↓isc_nf,↓len_nsl,↓len_nf]
            refine go_loop (fun m e H => ∃ j ed, j ≤ W.length ∧ m = W.length - j ∧ H = [boxR, x] ∧ e 0 = .str T ∧ e 2 = .cell 0 0 0 ∧ e 5 = .bool below ∧ e 7 = nf (lim a) ∧ e 9 = nf (lim b) ∧ e 11 = nsl ed (lim (10 ^ j)) ∧ e 12 = .int .i64 ((pre.length + 1 + j : Nat) : Int)) W.length
              ⟨0, false, Nat.zero_le _, rfl, rfl, ?_, ?_, ?_, ?_, ?_, ?_, ?_⟩ ?_
            · simp [Env.set, e0]
            · simp [Env.set, e2]
            · simp [Env.set, e5]
            · simp [Env.set]
            · simp [Env.set]
            · simp [Env.set, nf]
            · simp [Env.set]
            clear e0 e2 e5 e6
            rintro m e H ⟨j, ed, hj, rfl, rfl, e0, e2, e5, e7, e9, e11, e12⟩
            have hjl : (lim (10 ^ j)).length ≤ 4910 := by
              have := lim_ten (n := 10 ^ j) (k := j + 1) (by rw [Nat.pow_succ]; have := Nat.pow_pos (n := j) (show 0 < 10 by decide); omega)
              omega
            rcases Nat.lt_or_ge j W.length with hlt | hge
            · have hg := good479 ed true (lim (10 ^ j)) [10] (lim_lm _) (by intro x hx; simp at hx; omega) (by omega) (by simp)
              rw [lim_val, show val [10] = 10 from rfl, ← Nat.pow_succ] at hg
              simp -implicitDefEqProofs (disch := omega) only [↓ZD,ZP,cnd_t,cnd_f,↓reduceIte,Env.put,stepO,lenV,binV,binInt,unV,loadV,sliceV,boundOf,convV,slstrV,if_pos,if_neg,Int.reduceToNat,Nat.reducePow,V.cells,V.isCell,V.boxable,Nat.reduceEqDiff,reduceCtorEq,reduceIte,ite_self,enterEnv,e0,e2,e5,e7,e9,e11,e12,hTl,fillL,evParts,splice,List.take_zero,List.take_succ_cons,List.drop_succ_cons,List.drop_zero,List.drop_nil]
              refine calP_ro (by simp only [roL,nsl_ro]; rfl) hg (nf_ro _) ?_
              simp -implicitDefEqProofs (disch := omega) only [↓ZD,ZP,cnd_t,cnd_f,↓reduceIte,Env.put,stepO,lenV,binV,binInt,unV,loadV,sliceV,boundOf,convV,slstrV,if_pos,if_neg,Int.reduceToNat,Nat.reducePow,V.cells,V.isCell,V.boxable,Nat.reduceEqDiff,reduceCtorEq,reduceIte,ite_self,enterEnv,e0,e2,e5,e7,e9,e11,e12,hTl,nf]
              exact ⟨_, by omega, j + 1, false, by omega, rfl, rfl, rfl⟩
            · obtain rfl : j = W.length := by omega
              have hg := good479 false ed (lim a) (lim (10 ^ W.length)) (lim_lm _) (lim_lm _) (by omega) (by omega)
              rw [lim_val, lim_val] at hg
              have hal : (lim (a * 10 ^ W.length)).length ≤ 9900 := by
                have := lim_ten (n := a * 10 ^ W.length) (k := pre.length + W.length) (by rw [Nat.pow_add]; exact Nat.mul_lt_mul_of_pos_right hbU (Nat.pow_pos (by decide)))
                omega
              have hg2 := good480 false false (lim (a * 10 ^ W.length)) (lim b) (lim_lm _) (lim_lm _) (by omega) (by omega)
              rw [lim_val, lim_val] at hg2
              have hsl : (lim (a * 10 ^ W.length + b)).length ≤ 9900 := by
                have := lim_ten (n := a * 10 ^ W.length + b) (k := pre.length + W.length) (by
                  rw [Nat.pow_add]
                  have h1 := Nat.mul_le_mul_right (10 ^ W.length) hbU
                  rw [Nat.succ_mul] at h1
                  omega)
                omega
              have hg3 := good477 false ed below (lim (a * 10 ^ W.length + b)) (lim (10 ^ W.length)) (lim_lm _) (lim_lm _) (by omega) (by omega)
              rw [lim_val, lim_val] at hg3
              obtain ⟨b', x', y', m', hmk⟩ := makeR_agg below (a * 10 ^ W.length + b) (10 ^ W.length)
              rw [hmk] at hg3 ⊢
              simp -implicitDefEqProofs (disch := omega) only [↓ZD,ZP,cnd_t,cnd_f,↓reduceIte,Env.put,stepO,lenV,binV,binInt,unV,loadV,sliceV,boundOf,convV,slstrV,if_pos,if_neg,Int.reduceToNat,Nat.reducePow,V.cells,V.isCell,V.boxable,Nat.reduceEqDiff,reduceCtorEq,reduceIte,ite_self,enterEnv,e0,e2,e5,e7,e9,e11,e12,hTl]
              refine calP_ro (by simp [roL, V.ro, nl_ro, nsl_ro, nf_ro, nls_ro]) hg (nf_ro _) ?_
              simp -implicitDefEqProofs (disch := omega) only [↓ZD,ZP,cnd_t,cnd_f,↓reduceIte,Env.put,stepO,lenV,binV,binInt,unV,loadV,sliceV,boundOf,convV,slstrV,if_pos,if_neg,Int.reduceToNat,Nat.reducePow,V.cells,V.isCell,V.boxable,Nat.reduceEqDiff,reduceCtorEq,reduceIte,ite_self,enterEnv,e0,e2,e5,e7,e9,e11,e12,hTl]
              refine calP_ro (by simp [roL, V.ro, nl_ro, nsl_ro, nf_ro, nls_ro]) hg2 (nf_ro _) ?_
              simp -implicitDefEqProofs (disch := omega) only [↓ZD,ZP,cnd_t,cnd_f,↓reduceIte,Env.put,stepO,lenV,binV,binInt,unV,loadV,sliceV,boundOf,convV,slstrV,if_pos,if_neg,Int.reduceToNat,Nat.reducePow,V.cells,V.isCell,V.boxable,Nat.reduceEqDiff,reduceCtorEq,reduceIte,ite_self,enterEnv,e0,e2,e5,e7,e9,e11,e12,hTl]
              refine calP_ro (by simp [roL, V.ro, nl_ro, nsl_ro, nf_ro, nls_ro]) hg3 (by simp [pairV, V.ro, roL, rv_ro]) ?_
              simp -implicitDefEqProofs (disch := omega) only [↓ZD,ZP,cnd_t,cnd_f,↓reduceIte,Env.put,stepO,lenV,binV,binInt,unV,loadV,sliceV,boundOf,convV,slstrV,if_pos,if_neg,Int.reduceToNat,Nat.reducePow,V.cells,V.isCell,V.boxable,Nat.reduceEqDiff,reduceCtorEq,reduceIte,ite_self,enterEnv,e0,e2,e5,e7,e9,e11,e12,pairV,rv,boxR,fillL,evParts,splice,List.take_zero,List.take_succ_cons,List.drop_succ_cons,List.drop_zero,List.drop_nil,loadV,↓cells_nsl,↓cells_nf,↓box_nsl,↓box_nf,↓isc_nsl,↓isc_nf,↓len_nsl,↓len_nf]
              exact gives_eq (by simp [roL, V.ro, nl_ro, nsl_ro, nf_ro, nls_ro]) rfl
      · simp -implicitDefEqProofs (disch := omega) only [↓ZD,ZP,cnd_t,cnd_f,↓reduceIte,Env.put,stepO,lenV,binV,binInt,unV,loadV,sliceV,boundOf,convV,slstrV,if_pos,if_neg,Int.reduceToNat,Nat.reducePow,V.cells,V.isCell,V.boxable,Nat.reduceEqDiff,reduceCtorEq,reduceIte,ite_self,enterEnv,e0,e2,e5,e6,hz,htk,hTl,hat,h114,List.drop_zero]
        refine calP_ro rfl hgU (by simp [roL, V.ro, nl_ro, nsl_ro, nf_ro, nls_ro]) ?_
        cases ok with
        | false =>
          have hrx : ratX below pre (M :: W) = (rv false 0 0, 22) := by rw [ratX, hA, hB, if_pos (.inl rfl)]
          rw [hrx]
          simp -implicitDefEqProofs (disch := omega) only [↓ZD,ZP,cnd_t,cnd_f,↓reduceIte,Env.put,stepO,lenV,binV,binInt,unV,loadV,sliceV,boundOf,convV,slstrV,if_pos,if_neg,Int.reduceToNat,Nat.reducePow,V.cells,V.isCell,V.boxable,Nat.reduceEqDiff,reduceCtorEq,reduceIte,ite_self,enterEnv,e0,e2,e5,e6,boxR,fillL,evParts,splice,List.take_zero,List.take_succ_cons,List.drop_succ_cons,List.drop_zero,List.drop_nil,loadV,nf,nsl]
          refine gives_eq (by simp [roL, V.ro, nl_ro, nsl_ro, nf_ro, nls_ro]) ?_
          rw [pairV, ← rv0]; rfl
        | true =>
          simp -implicitDefEqProofs (disch := omega) only [↓ZD,ZP,cnd_t,cnd_f,↓reduceIte,Env.put,stepO,lenV,binV,binInt,unV,loadV,sliceV,boundOf,convV,slstrV,if_pos,if_neg,Int.reduceToNat,Nat.reducePow,V.cells,V.isCell,V.boxable,Nat.reduceEqDiff,reduceCtorEq,reduceIte,ite_self,enterEnv,e0,e2,e5,e6,hTl,hz2,hdr,htkW]
          refine calP_ro rfl hgW (by simp [roL, V.ro, nl_ro, nsl_ro, nf_ro, nls_ro]) ?_
          cases fine with
          | false =>
            have hrx : ratX below pre (M :: W) = (rv false 0 0, 22) := by rw [ratX, hA, hB, if_pos (.inr (.inl rfl))]
            rw [hrx]
            simp -implicitDefEqProofs (disch := omega) only [↓ZD,ZP,cnd_t,cnd_f,↓reduceIte,Env.put,stepO,lenV,binV,binInt,unV,loadV,sliceV,boundOf,convV,slstrV,if_pos,if_neg,Int.reduceToNat,Nat.reducePow,V.cells,V.isCell,V.boxable,Nat.reduceEqDiff,reduceCtorEq,reduceIte,ite_self,enterEnv,e0,e2,e5,e6,boxR,fillL,evParts,splice,List.take_zero,List.take_succ_cons,List.drop_succ_cons,List.drop_zero,List.drop_nil,loadV,nf,nsl]
            refine gives_eq (by simp [roL, V.ro, nl_ro, nsl_ro, nf_ro, nls_ro]) ?_
            rw [pairV, ← rv0]; rfl
          | true =>
            by_cases hb0 : b = 0
            · have hbz := lim_nil_len.2 hb0
              have hrx : ratX below pre (M :: W) = (rv false 0 0, 22) := by rw [ratX, hA, hB, if_pos (.inr (.inr ⟨h114, hb0⟩))]
              rw [hrx]
              simp -implicitDefEqProofs (disch := omega) only [↓ZD,ZP,cnd_t,cnd_f,↓reduceIte,Env.put,stepO,lenV,binV,binInt,unV,loadV,sliceV,boundOf,convV,slstrV,if_pos,if_neg,Int.reduceToNat,Nat.reducePow,V.cells,V.isCell,V.boxable,Nat.reduceEqDiff,reduceCtorEq,reduceIte,ite_self,enterEnv,e0,e2,e5,e6,hTl,hat,h114,nf,nsl,boxR,fillL,evParts,splice,List.take_zero,List.take_succ_cons,List.drop_succ_cons,List.drop_zero,List.drop_nil,loadV,hbz]
              refine gives_eq (by simp [roL, V.ro, nl_ro, nsl_ro, nf_ro, nls_ro]) ?_
              rw [pairV, ← rv0]; rfl
            · have hbz := (not_congr lim_nil_len).2 hb0
              have hrx : ratX below pre (M :: W) = makeR below a b := by
                rw [ratX, hA, hB, if_neg (by
                  rintro (h | h | h)
                  · cases h
                  · cases h
                  · exact hb0 h.2), if_pos h114]
              rw [hrx]
              have hg := good477 false false below (lim a) (lim b) (lim_lm _) (lim_lm _) (by omega) (by omega)
              rw [lim_val, lim_val] at hg
              obtain ⟨b', x', y', m', hmk⟩ := makeR_agg below a b
              rw [hmk] at hg ⊢
              simp -implicitDefEqProofs (disch := omega) only [↓ZD,ZP,cnd_t,cnd_f,↓reduceIte,Env.put,stepO,lenV,binV,binInt,unV,loadV,sliceV,boundOf,convV,slstrV,if_pos,if_neg,Int.reduceToNat,Nat.reducePow,V.cells,V.isCell,V.boxable,Nat.reduceEqDiff,reduceCtorEq,reduceIte,ite_self,enterEnv,e0,e2,e5,e6,hTl,hat,h114,nf,nsl]
              refine calP_ro (by simp [roL, V.ro, nl_ro, nsl_ro, nf_ro, nls_ro]) hg (by simp [pairV, V.ro, roL, rv_ro]) ?_
              simp -implicitDefEqProofs (disch := omega) only [↓ZD,ZP,cnd_t,cnd_f,↓reduceIte,Env.put,stepO,lenV,binV,binInt,unV,loadV,sliceV,boundOf,convV,slstrV,if_pos,if_neg,Int.reduceToNat,Nat.reducePow,V.cells,V.isCell,V.boxable,Nat.reduceEqDiff,reduceCtorEq,reduceIte,ite_self,enterEnv,e0,e2,e5,e6,pairV,rv,boxR,fillL,evParts,splice,List.take_zero,List.take_succ_cons,List.drop_succ_cons,List.drop_zero,List.drop_nil,loadV,↓cells_nsl,↓cells_nf,↓box_nsl,↓box_nf,↓isc_nsl,↓isc_nf,↓len_nsl,↓len_nf]
              exact gives_eq (by simp [roL, V.ro, nl_ro, nsl_ro, nf_ro, nls_ro]) rfl

theorem good439 (below : Bool) (U R s : List UInt8) (hs : s = (if below = true then [194, 175] else []) ++ (U ++ R)) (hb : below = false → (s.take 2 == [194, 175]) = false) (hU : ∀ c ∈ U, ¬ markB c) (hR : R = [] ∨ ∃ M W, R = M :: W ∧ markB M) (hl : s.length ≤ 4900) :
    Good Go.Proofs.Tryz.prog 151 [.str s] (pairV (if 700 < (rn s).length then (rv false 0 0, 8) else ratX below U R)) := by
  refine good_go mix s439 (Nat.le_of_ble_eq_true rfl) fun e he => ?_
  have e0 : e 0 = .str s := he 0
  clear he
  simp only [c439,b439, oQ]
  simp -implicitDefEqProofs (disch := omega) only [↓ZD,ZP,cnd_t,cnd_f,↓reduceIte,Env.put,stepO,lenV,binV,binInt,unV,loadV,sliceV,boundOf,convV,slstrV,if_pos,if_neg,Int.reduceToNat,Nat.reducePow,V.cells,V.isCell,V.boxable,Nat.reduceEqDiff,reduceCtorEq,reduceIte,ite_self,enterEnv,e0,fillL,evParts,splice,List.take_zero,List.take_succ_cons,List.drop_succ_cons,List.drop_zero,List.drop_nil,nf,nsl]
  refine go_loop (fun k e H => ∃ pos n, H = [.cells 0 0 true [.bool false, .sl true [] 0, .sl true [] 0], .iter s pos] ∧ pos ≤ s.length ∧ k = s.length - pos ∧ n + (rn (s.drop pos)).length = (rn s).length ∧ e 0 = .str s ∧ e 2 = .cell 0 0 0 ∧ e 4 = .int .i64 (n : Nat) ∧ e 14 = .cell 1 0 0)
    s.length ⟨0, 0, rfl, Nat.zero_le _, rfl, by simp, ?_, ?_, ?_, ?_⟩ ?_
  · simp [Env.set, e0]
  · simp [Env.set]
  · simp [Env.set]
  · simp [Env.set]
  clear e0
  rintro k e H ⟨pos, n, rfl, hpos, rfl, hn, e0, e2, e4, e14⟩
  have hr := rn_len s
  rcases Nat.lt_or_ge pos s.length with hlt | hge
  · obtain ⟨d1, d2, d3⟩ := drop_dec hlt
    rw [d3] at hn
    obtain ⟨c, w, hd⟩ : ∃ c w, decL (s.drop pos) = (c, w) := ⟨_, _, rfl⟩
    simp only [hd] at d1 d2 d3 hn
    simp only [List.length_cons] at hn
    simp -implicitDefEqProofs (disch := omega) only [↓ZD,ZP,cnd_t,cnd_f,↓reduceIte,Env.put,stepO,lenV,binV,binInt,unV,loadV,sliceV,boundOf,convV,slstrV,if_pos,if_neg,Int.reduceToNat,Nat.reducePow,V.cells,V.isCell,V.boxable,Nat.reduceEqDiff,reduceCtorEq,reduceIte,ite_self,enterEnv,e0,e2,e4,e14,hlt,hd]
    exact ⟨s.length - (pos + w), by omega, pos + w, n + 1, rfl, d2, rfl, by omega, rfl⟩
  · have hnl : ¬ pos < s.length := by omega
    rw [List.drop_of_length_le hge, rn_nil] at hn
    simp only [List.length_nil,Nat.add_zero] at hn
    subst hn
    by_cases h700 : 700 < (rn s).length
    · rw [if_pos h700]
      simp -implicitDefEqProofs (disch := omega) only [↓ZD,ZP,cnd_t,cnd_f,↓reduceIte,Env.put,stepO,lenV,binV,binInt,unV,loadV,sliceV,boundOf,convV,slstrV,if_pos,if_neg,Int.reduceToNat,Nat.reducePow,V.cells,V.isCell,V.boxable,Nat.reduceEqDiff,reduceCtorEq,reduceIte,ite_self,enterEnv,e0,e2,e4,e14,hnl,fillL,evParts,splice,List.take_zero,List.take_succ_cons,List.drop_succ_cons,List.drop_zero,List.drop_nil,loadV,nf,nsl]
      refine gives_eq (by simp [roL, V.ro, nl_ro, nsl_ro, nf_ro, nls_ro]) ?_
      rw [pairV, ← rv0]; rfl
    · rw [if_neg h700]
      have k := fun (e' : Env) => rest439 below U R (U ++ R) (.iter s pos) e' rfl hU hR
      obtain ⟨T, hT⟩ : ∃ T, T = U ++ R := ⟨_, rfl⟩
      rw [← hT] at k hs
      simp only [sub439,b439,boxR, oQ] at k
      simp -implicitDefEqProofs (disch := omega) only [↓ZD,ZP,cnd_t,cnd_f,↓reduceIte,Env.put,stepO,lenV,binV,binInt,unV,loadV,sliceV,boundOf,convV,slstrV,if_pos,if_neg,Int.reduceToNat,Nat.reducePow,V.cells,V.isCell,V.boxable,Nat.reduceEqDiff,reduceCtorEq,reduceIte,ite_self,enterEnv] at k
      cases below with
      | true =>
        simp only [if_true,List.cons_append,List.nil_append] at hs
        have h2 : s.take 2 = [194, 175] := by rw [hs]; rfl
        have h3 : s.drop 2 = T := by rw [hs]; rfl
        have h4 : s.length = T.length + 2 := by rw [hs]; simp
        have h5 : (((T.length + 2 : Nat) : Int) - 2).toNat = T.length := by omega
        have h6 : T.take T.length = T := List.take_length
        have h7 : ((2 : Int) - ((0 : Nat) : Int)).toNat = 2 := by decide
        simp -implicitDefEqProofs (disch := omega) only [↓ZD,ZP,cnd_t,cnd_f,↓reduceIte,Env.put,stepO,lenV,binV,binInt,unV,loadV,sliceV,boundOf,convV,slstrV,if_pos,if_neg,Int.reduceToNat,Nat.reducePow,V.cells,V.isCell,V.boxable,Nat.reduceEqDiff,reduceCtorEq,reduceIte,ite_self,enterEnv,e0,e2,e4,e14,hnl,fillL,evParts,splice,List.take_zero,List.take_succ_cons,List.drop_succ_cons,List.drop_zero,List.drop_nil,loadV,nf,nsl,h2,h7,binStr,h3,h4,h5,h6,Nat.lt_irrefl,Int.reduceToNat]
        refine k _ (by omega) ?_ ?_ ?_ <;> simp [Env.set, e2]
      | false =>
        simp only [Bool.false_eq_true,if_false,List.nil_append] at hs
        have hb := hb rfl
        have h7 : ((2 : Int) - ((0 : Nat) : Int)).toNat = 2 := by decide
        by_cases hl2 : 2 ≤ s.length
        · simp -implicitDefEqProofs (disch := omega) only [↓ZD,ZP,cnd_t,cnd_f,↓reduceIte,Env.put,stepO,lenV,binV,binInt,unV,loadV,sliceV,boundOf,convV,slstrV,if_pos,if_neg,Int.reduceToNat,Nat.reducePow,V.cells,V.isCell,V.boxable,Nat.reduceEqDiff,reduceCtorEq,reduceIte,ite_self,enterEnv,e0,e2,e4,e14,hnl,fillL,evParts,splice,List.take_zero,List.take_succ_cons,List.drop_succ_cons,List.drop_zero,List.drop_nil,loadV,nf,nsl,h7,hb,binStr]
          refine k _ (by rw [← hs]; exact hl) ?_ ?_ ?_ <;> simp [Env.set, e0, e2, hs]
        · simp -implicitDefEqProofs (disch := omega) only [↓ZD,ZP,cnd_t,cnd_f,↓reduceIte,Env.put,stepO,lenV,binV,binInt,unV,loadV,sliceV,boundOf,convV,slstrV,if_pos,if_neg,Int.reduceToNat,Nat.reducePow,V.cells,V.isCell,V.boxable,Nat.reduceEqDiff,reduceCtorEq,reduceIte,ite_self,enterEnv,e0,e2,e4,e14,hnl,fillL,evParts,splice,List.take_zero,List.take_succ_cons,List.drop_succ_cons,List.drop_zero,List.drop_nil,loadV,nf,nsl,h7,hb,binStr]
          refine k _ (by rw [← hs]; exact hl) ?_ ?_ ?_ <;> simp [Env.set, e0, e2, hs]
end Fe
open Go Go.Proofs
namespace Fe
def b440 : C :=
 (.seq
 (.region false [
 oQ 1 (.box (.t 0)),
 oQ 2 (.box (.c (.agg [.sl true [] 0, .sl true [] 0])))])
 (.seq
 (.region false [
 oQ 3 (.load true 3 (.t 1)),
 ⟨some 4, .call false (.c (.fn 219 [] [])) [.t 3], none⟩,
 oQ 5 (.build [.int .u8 0, .bool false, .sl true [] 0, .sl true [] 0, .int .i32 0, .sl true [] 0] [(0, (1, .c (.int .u8 1))), (1, (3, .t 4))]),
 oQ 6 (.mksl [.int .u8 0, .bool false, .sl true [] 0, .sl true [] 0, .int .i32 0, .sl true [] 0] 1 [(0, (6, .t 5))]),
 oQ 7 (.build [.sl true [] 0, .sl true [] 0] [(1, (1, .t 6))]),
 ⟨none, .op (.store 2 (.t 2) (.t 7)), none⟩])
 .ret))
def c440 : CF := ⟨8, 1, [.load true 2 (.t 2)], b440⟩
def b442 : C :=
 (.seq
 (.region false [
 oQ 2 (.box (.c (.agg [.sl true [] 0, .sl true [] 0])))])
 (.seq
 (.region false [
 oQ 3 (.mov (.t 0)),
 oQ 4 (.build [.int .u8 0, .bool false, .sl true [] 0, .sl true [] 0, .int .i32 0, .sl true [] 0] [(0, (1, .c (.int .u8 2))), (4, (1, .t 3))]),
 oQ 5 (.mksl [.int .u8 0, .bool false, .sl true [] 0, .sl true [] 0, .int .i32 0, .sl true [] 0] 1 [(0, (6, .t 4))]),
 oQ 6 (.build [.sl true [] 0, .sl true [] 0] [(1, (1, .t 5))]),
 ⟨none, .op (.store 2 (.t 2) (.t 6)), none⟩])
 .ret))
def c442 : CF := ⟨7, 1, [.load true 2 (.t 2)], b442⟩
def b438 : C :=
 (.seq
 (.region false [
 oQ 2 (.mov (.c (.bool false)))])
 (.seq
 (.region false [
 oQ 3 (.mov (.t 0)),
 oQ 4 (.bin 0 .geq (.t 3) (.c (.int .i32 48))),
 oQ 5 (.mov (.t 4)),
 ⟨some 6, .op (.mov (.t 0)), some (5, true)⟩,
 ⟨some 7, .op (.bin 0 .leq (.t 6) (.c (.int .i32 57))), some (5, true)⟩,
 oQ 8 (.pick (.t 5) (.t 7) (.c (.bool false))),
 oQ 2 (.mov (.t 8))])
 .ret))
def c438 : CF := ⟨9, 1, [.mov (.t 2)], b438⟩
def b443 : C :=
 (.seq
 (.region false [
 oQ 2 (.mov (.c (.bool false)))])
 (.seq
 (.region false [
 oQ 3 (.mov (.t 0)),
 oQ 4 (.bin 0 .geq (.t 3) (.c (.int .i32 65))),
 oQ 5 (.mov (.t 4)),
 ⟨some 6, .op (.mov (.t 0)), some (5, true)⟩,
 ⟨some 7, .op (.bin 0 .leq (.t 6) (.c (.int .i32 90))), some (5, true)⟩,
 oQ 8 (.pick (.t 5) (.t 7) (.c (.bool false))),
 oQ 9 (.mov (.t 8)),
 ⟨some 10, .op (.mov (.t 0)), some (9, false)⟩,
 ⟨some 11, .op (.bin 0 .geq (.t 10) (.c (.int .i32 97))), some (9, false)⟩,
 ⟨some 12, .op (.mov (.t 11)), some (9, false)⟩,
 ⟨some 13, .op (.mov (.t 0)), some (12, true)⟩,
 ⟨some 14, .op (.bin 0 .leq (.t 13) (.c (.int .i32 122))), some (12, true)⟩,
 ⟨some 15, .op (.pick (.t 12) (.t 14) (.c (.bool false))), some (9, false)⟩,
 oQ 16 (.pick (.t 9) (.c (.bool true)) (.t 15)),
 oQ 17 (.mov (.t 16)),
 ⟨some 18, .op (.mov (.t 0)), some (17, false)⟩,
 ⟨some 19, .op (.bin 0 .eql (.t 18) (.c (.int .i32 95))), some (17, false)⟩,
 oQ 20 (.pick (.t 17) (.c (.bool true)) (.t 19)),
 oQ 21 (.mov (.t 20)),
 ⟨some 22, .op (.mov (.t 0)), some (21, false)⟩,
 ⟨some 23, .op (.bin 0 .eql (.t 22) (.c (.int .i32 8710))), some (21, false)⟩,
 oQ 24 (.pick (.t 21) (.c (.bool true)) (.t 23)),
 oQ 2 (.mov (.t 24))])
 .ret))
def c443 : CF := ⟨25, 1, [.mov (.t 2)], b443⟩
def b446 : C :=
 (.seq
 (.region false [
 oQ 0 (.mov (.c (.str [])))])
 (.seq
 (.region false [
 oQ 0 (.mov (.c (.str [40, 41, 91, 93, 59, 123, 125, 226, 134, 144, 226, 134, 146, 226, 139, 132, 58, 226, 136, 135, 226, 141, 186, 226, 141, 181])))])
 .ret))
def c446 : CF := ⟨1, 0, [.mov (.t 0)], b446⟩
theorem s440 : stripF Go.Proofs.Tryz.prog 152 = some c440 := by kernel_rfl
theorem s442 : stripF Go.Proofs.Tryz.prog 154 = some c442 := by kernel_rfl
theorem s438 : stripF Go.Proofs.Tryz.prog 150 = some c438 := by kernel_rfl
theorem s443 : stripF Go.Proofs.Tryz.prog 155 = some c443 := by kernel_rfl
theorem s446 : stripF Go.Proofs.Tryz.prog 158 = some c446 := by kernel_rfl

/-! ### Arrays that are the same, whatever is known of capacities -/
/-- Items that hold no arrays, the same. -/
def SIt (p : List V × List V) : Prop := ∃ (k c : Int) (b ea eb ec ea' eb' ec' : Bool) (x y : List Nat), x.length ≤ 1100000 ∧ y.length ≤ 1100000 ∧ p.1 = [.int .u8 k, .bool b, nsl ea x, nsl eb y, .int .i32 c, .sl ec [] 0] ∧ p.2 = [.int .u8 k, .bool b, nsl ea' x, nsl eb' y, .int .i32 c, .sl ec' [] 0]

/-- Arrays, the same. -/
def arrA (ea eb : Bool) (sh : List Nat) (prs : List (List V × List V)) : V := .agg [.sl ea (shl' sh) sh.length, .sl eb (prs.map (·.1)).flatten prs.length]
def arrB (ea eb : Bool) (sh : List Nat) (prs : List (List V × List V)) : V := .agg [.sl ea (shl' sh) sh.length, .sl eb (prs.map (·.2)).flatten prs.length]

/-! ### Characters, by the reference -/
theorem good438 (c : Nat) : Good Go.Proofs.Tryz.prog 150 [.int .i32 c] (.bool (isD c)) := by
  refine good_go mix s438 (Nat.le_of_ble_eq_true rfl) fun e he => ?_
  have e0 : e 0 = .int .i32 c := he 0
  clear he
  simp only [c438,b438, oQ]
  by_cases h1 : 48 ≤ c
  · by_cases h2 : c ≤ 57
    · simp -implicitDefEqProofs (disch := omega) only [↓ZD,ZP,cnd_t,cnd_f,↓reduceIte,Env.put,stepO,lenV,binV,binInt,unV,loadV,sliceV,boundOf,convV,slstrV,if_pos,if_neg,Int.reduceToNat,Nat.reducePow,V.cells,V.isCell,V.boxable,Nat.reduceEqDiff,reduceCtorEq,reduceIte,ite_self,enterEnv,e0]; exact gives_eq rfl (by simp [isD, h1, h2, V.weak])
    · simp -implicitDefEqProofs (disch := omega) only [↓ZD,ZP,cnd_t,cnd_f,↓reduceIte,Env.put,stepO,lenV,binV,binInt,unV,loadV,sliceV,boundOf,convV,slstrV,if_pos,if_neg,Int.reduceToNat,Nat.reducePow,V.cells,V.isCell,V.boxable,Nat.reduceEqDiff,reduceCtorEq,reduceIte,ite_self,enterEnv,e0]; exact gives_eq rfl (by simp [isD, h1, h2, V.weak])
  · simp -implicitDefEqProofs (disch := omega) only [↓ZD,ZP,cnd_t,cnd_f,↓reduceIte,Env.put,stepO,lenV,binV,binInt,unV,loadV,sliceV,boundOf,convV,slstrV,if_pos,if_neg,Int.reduceToNat,Nat.reducePow,V.cells,V.isCell,V.boxable,Nat.reduceEqDiff,reduceCtorEq,reduceIte,ite_self,enterEnv,e0]; exact gives_eq rfl (by simp [isD, h1, V.weak])

theorem good443 (c : Nat) : Good Go.Proofs.Tryz.prog 155 [.int .i32 c] (.bool (isL c)) := by
  refine good_go mix s443 (Nat.le_of_ble_eq_true rfl) fun e he => ?_
  have e0 : e 0 = .int .i32 c := he 0
  clear he
  simp only [c443,b443, oQ]
  have hcase : (65 ≤ c ∧ c ≤ 90) ∨ (¬ 65 ≤ c) ∨ (65 ≤ c ∧ ¬ c ≤ 90 ∧ ¬ 97 ≤ c) ∨ (65 ≤ c ∧ ¬ c ≤ 90 ∧ 97 ≤ c ∧ c ≤ 122) ∨ (65 ≤ c ∧ ¬ c ≤ 90 ∧ 97 ≤ c ∧ ¬ c ≤ 122) := by omega
  rcases hcase with ⟨h1, h2⟩ | h1 | ⟨h1, h2, h3⟩ | ⟨h1, h2, h3, h4⟩ | ⟨h1, h2, h3, h4⟩
  · simp -implicitDefEqProofs (disch := omega) only [↓ZD,ZP,cnd_t,cnd_f,↓reduceIte,Env.put,stepO,lenV,binV,binInt,unV,loadV,sliceV,boundOf,convV,slstrV,if_pos,if_neg,Int.reduceToNat,Nat.reducePow,V.cells,V.isCell,V.boxable,Nat.reduceEqDiff,reduceCtorEq,reduceIte,ite_self,enterEnv,e0]; exact gives_eq rfl (by simp [isL, isCap, isSm, h1, h2, V.weak])
  · simp -implicitDefEqProofs (disch := omega) only [↓ZD,ZP,cnd_t,cnd_f,↓reduceIte,Env.put,stepO,lenV,binV,binInt,unV,loadV,sliceV,boundOf,convV,slstrV,if_pos,if_neg,Int.reduceToNat,Nat.reducePow,V.cells,V.isCell,V.boxable,Nat.reduceEqDiff,reduceCtorEq,reduceIte,ite_self,enterEnv,e0]; exact gives_eq rfl (by simp [isL, isCap, isSm, V.weak]; omega)
  · by_cases h5 : c = 95
    · simp -implicitDefEqProofs (disch := omega) only [↓ZD,ZP,cnd_t,cnd_f,↓reduceIte,Env.put,stepO,lenV,binV,binInt,unV,loadV,sliceV,boundOf,convV,slstrV,if_pos,if_neg,Int.reduceToNat,Nat.reducePow,V.cells,V.isCell,V.boxable,Nat.reduceEqDiff,reduceCtorEq,reduceIte,ite_self,enterEnv,e0,h5]; exact gives_eq rfl rfl
    · simp -implicitDefEqProofs (disch := omega) only [↓ZD,ZP,cnd_t,cnd_f,↓reduceIte,Env.put,stepO,lenV,binV,binInt,unV,loadV,sliceV,boundOf,convV,slstrV,if_pos,if_neg,Int.reduceToNat,Nat.reducePow,V.cells,V.isCell,V.boxable,Nat.reduceEqDiff,reduceCtorEq,reduceIte,ite_self,enterEnv,e0]; exact gives_eq rfl (by simp [isL, isCap, isSm, V.weak]; omega)
  · simp -implicitDefEqProofs (disch := omega) only [↓ZD,ZP,cnd_t,cnd_f,↓reduceIte,Env.put,stepO,lenV,binV,binInt,unV,loadV,sliceV,boundOf,convV,slstrV,if_pos,if_neg,Int.reduceToNat,Nat.reducePow,V.cells,V.isCell,V.boxable,Nat.reduceEqDiff,reduceCtorEq,reduceIte,ite_self,enterEnv,e0]; exact gives_eq rfl (by simp [isL, isCap, isSm, h3, h4, V.weak])
  · by_cases h5 : c = 8710
    · simp -implicitDefEqProofs (disch := omega) only [↓ZD,ZP,cnd_t,cnd_f,↓reduceIte,Env.put,stepO,lenV,binV,binInt,unV,loadV,sliceV,boundOf,convV,slstrV,if_pos,if_neg,Int.reduceToNat,Nat.reducePow,V.cells,V.isCell,V.boxable,Nat.reduceEqDiff,reduceCtorEq,reduceIte,ite_self,enterEnv,e0,h5]; exact gives_eq rfl rfl
    · simp -implicitDefEqProofs (disch := omega) only [↓ZD,ZP,cnd_t,cnd_f,↓reduceIte,Env.put,stepO,lenV,binV,binInt,unV,loadV,sliceV,boundOf,convV,slstrV,if_pos,if_neg,Int.reduceToNat,Nat.reducePow,V.cells,V.isCell,V.boxable,Nat.reduceEqDiff,reduceCtorEq,reduceIte,ite_self,enterEnv,e0]; exact gives_eq rfl (by simp [isL, isCap, isSm, V.weak]; omega)

theorem good446 : Good Go.Proofs.Tryz.prog 158 [] (.str signB) := by
  refine good_go mix s446 (Nat.le_of_ble_eq_true rfl) fun e he => ?_
  clear he
  simp only [c446,b446, oQ]
  simp -implicitDefEqProofs (disch := omega) only [↓ZD,ZP,cnd_t,cnd_f,↓reduceIte,Env.put,stepO,lenV,binV,binInt,unV,loadV,sliceV,boundOf,convV,slstrV,if_pos,if_neg,Int.reduceToNat,Nat.reducePow,V.cells,V.isCell,V.boxable,Nat.reduceEqDiff,reduceCtorEq,reduceIte,ite_self,enterEnv]
  exact gives_eq rfl rfl

theorem good442 (c : Nat) : Good Go.Proofs.Tryz.prog 154 [.int .i32 c] (.agg [.sl true [] 0, .sl true (itemC' c) 1]) := by
  refine good_go mix s442 (Nat.le_of_ble_eq_true rfl) fun e he => ?_
  have e0 : e 0 = .int .i32 c := he 0
  clear he
  simp only [c442,b442, oQ]
  simp -implicitDefEqProofs (disch := omega) only [↓ZD,ZP,cnd_t,cnd_f,↓reduceIte,Env.put,stepO,lenV,binV,binInt,unV,loadV,sliceV,boundOf,convV,slstrV,if_pos,if_neg,Int.reduceToNat,Nat.reducePow,V.cells,V.isCell,V.boxable,Nat.reduceEqDiff,reduceCtorEq,reduceIte,ite_self,enterEnv,e0,fillL,evParts,splice,List.take_zero,List.take_succ_cons,List.drop_succ_cons,List.drop_zero,List.drop_nil]
  exact gives_ro rfl
end Fe
open Go Go.Proofs
namespace Fe
def b441 : C :=
 (.seq
 (.region false [
 oQ 2 (.box (.c (.agg [.sl true [] 0, .sl true [] 0])))])
 (.seq
 (.region false [
 oQ 3 (.mov (.c (.sl true [] 0)))])
 (.seq
 (.seq
 (.region false [
 oQ 7 (.mov (.t 0)),
 oQ 8 (.range (.t 7))])
 (.block 0
 (.loop
 (.seq
 (.region false [
 oQ 9 (.next (.t 8)),
 oQ 10 (.extract (.t 9) 0)])
 (.seq
 (.cond (.t 10)
 .skip
 (.exit 0))
 (.block 1
 (.seq
 (.region false [
 oQ 11 (.extract (.t 9) 2),
 oQ 5 (.mov (.t 11))])
 (.seq
 (.region false [
 oQ 12 (.mov (.t 3)),
 oQ 13 (.len false (.t 12)),
 oQ 14 (.bin 0 .lss (.t 13) (.c (.int .i64 4096)))])
 (.cond (.t 14)
 (.region false [
 oQ 15 (.mov (.t 3)),
 oQ 16 (.mov (.t 5)),
 oQ 17 (.build [.int .u8 0, .bool false, .sl true [] 0, .sl true [] 0, .int .i32 0, .sl true [] 0] [(0, (1, .c (.int .u8 2))), (4, (1, .t 16))]),
 oQ 18 (.mksl [.int .u8 0, .bool false, .sl true [] 0, .sl true [] 0, .int .i32 0, .sl true [] 0] 1 [(0, (6, .t 17))]),
 oQ 19 (.append 6 96 (.t 15) (.t 18)),
 oQ 3 (.mov (.t 19))])
 .skip)))))))))
 (.seq
 (.region false [
 oQ 20 (.mov (.t 3)),
 oQ 21 (.len false (.t 20)),
 oQ 6 (.mov (.t 21))])
 (.seq
 (.seq
 (.region false [
 oQ 22 (.mov (.t 6)),
 oQ 23 (.bin 0 .eql (.t 22) (.c (.int .i64 0)))])
 (.cond (.t 23)
 (.region false [
 ⟨some 24, .call false (.c (.fn 154 [] [])) [.c (.int .i32 32)], none⟩,
 oQ 25 (.field false 1 1 (.t 24)),
 oQ 3 (.mov (.t 25))])
 .skip))
 (.seq
 (.region false [
 oQ 26 (.mov (.t 6)),
 oQ 27 (.mkslh 1 [.int .i64 0] 1 [(0, (1, .t 26))]),
 oQ 28 (.mov (.t 3)),
 oQ 29 (.build [.sl true [] 0, .sl true [] 0] [(0, (1, .t 27)), (1, (1, .t 28))]),
 ⟨none, .op (.store 2 (.t 2) (.t 29)), none⟩])
 .ret))))))
def c441 : CF := ⟨30, 1, [.load true 2 (.t 2)], b441⟩
theorem s441 : stripF Go.Proofs.Tryz.prog 153 = some c441 := by kernel_rfl

theorem app_c {x : List Nat} (hne : x ≠ []) (hl : x.length ≤ 1000000) (H : Heap) (ea : Bool) : appendV 1 4 H (.sl true [] 0) (.sl ea (nl x) x.length) = some (.view H.length 0 0 x.length, H ++ [.cells 0 1 true (nl x)]) := by
  cases x with
  | nil => exact absurd rfl hne
  | cons x l =>
    simp only [List.length_cons] at hl
    have h1 : (nl (x :: l)).length = l.length + 1 := by rw [nl_len]; rfl
    have h2 : (l.length + 1) * 4 ≤ 140737488355328 := by omega
    have h3 : l.length + 1 ≤ 9223372036854775807 := by omega
    simp [appendV, srcCells, readSl, h1, h2, h3]
theorem app_n (H : Heap) (ea : Bool) : appendV 1 4 H (.sl true [] 0) (.sl ea [] 0) = some (.sl true [] 0, H) := rfl

set_option maxHeartbeats 1000000 in
theorem good481 (b ea eb : Bool) (x y : List Nat) (hx : x.length ≤ 1000000) (hy : y.length ≤ 1000000) : Good Go.Proofs.Tryz.prog 219 [.agg [.bool b, nsl ea x, nsl eb y]] (.agg [.bool b, nf x, nf y]) := by
  refine good_go mix s481 (Nat.le_of_ble_eq_true rfl) fun e he => ?_
  have e0 : e 0 = .agg [.bool b, nsl ea x, nsl eb y] := he 0
  clear he
  simp only [c481,b481, oQ]
  have tx := nl_take x
  have ty := nl_take y
  by_cases h1 : x = []
  · subst h1
    by_cases h2 : y = []
    · subst h2
      simp -implicitDefEqProofs (disch := omega) only [↓ZD,ZP,cnd_t,cnd_f,↓reduceIte,Env.put,stepO,lenV,binV,binInt,unV,loadV,sliceV,boundOf,convV,slstrV,if_pos,if_neg,Int.reduceToNat,Nat.reducePow,V.cells,V.isCell,V.boxable,Nat.reduceEqDiff,reduceCtorEq,reduceIte,ite_self,enterEnv,e0,nf,nsl,fillL,evParts,splice,List.take_zero,List.take_succ_cons,List.drop_succ_cons,List.drop_zero,List.drop_nil,loadV,app_n,nl_nil]
      exact gives_eq rfl rfl
    · have a2 := app_c h2 hy
      simp -implicitDefEqProofs (disch := omega) only [↓ZD,ZP,cnd_t,cnd_f,↓reduceIte,Env.put,stepO,lenV,binV,binInt,unV,loadV,sliceV,boundOf,convV,slstrV,if_pos,if_neg,Int.reduceToNat,Nat.reducePow,V.cells,V.isCell,V.boxable,Nat.reduceEqDiff,reduceCtorEq,reduceIte,ite_self,enterEnv,e0,nf,nsl,fillL,evParts,splice,List.take_zero,List.take_succ_cons,List.drop_succ_cons,List.drop_zero,List.drop_nil,loadV,app_n,a2,nl_nil]
      refine gives_lend 1 (v' := .agg [.bool b, nsl true [], nf y]) ?_ (by simp [V.ro, roL, nf_ro, nsl_ro]) rfl
      simp [lend1, borL, bor, nf, nsl, ty]
      try rfl
  · have a1 := app_c h1 hx
    by_cases h2 : y = []
    · subst h2
      simp -implicitDefEqProofs (disch := omega) only [↓ZD,ZP,cnd_t,cnd_f,↓reduceIte,Env.put,stepO,lenV,binV,binInt,unV,loadV,sliceV,boundOf,convV,slstrV,if_pos,if_neg,Int.reduceToNat,Nat.reducePow,V.cells,V.isCell,V.boxable,Nat.reduceEqDiff,reduceCtorEq,reduceIte,ite_self,enterEnv,e0,nf,nsl,fillL,evParts,splice,List.take_zero,List.take_succ_cons,List.drop_succ_cons,List.drop_zero,List.drop_nil,loadV,app_n,a1,nl_nil]
      refine gives_lend 1 (v' := .agg [.bool b, nf x, nsl true []]) ?_ (by simp [V.ro, roL, nf_ro, nsl_ro]) rfl
      simp [lend1, borL, bor, nf, nsl, tx]
      try rfl
    · have a2 := app_c h2 hy
      simp -implicitDefEqProofs (disch := omega) only [↓ZD,ZP,cnd_t,cnd_f,↓reduceIte,Env.put,stepO,lenV,binV,binInt,unV,loadV,sliceV,boundOf,convV,slstrV,if_pos,if_neg,Int.reduceToNat,Nat.reducePow,V.cells,V.isCell,V.boxable,Nat.reduceEqDiff,reduceCtorEq,reduceIte,ite_self,enterEnv,e0,nf,nsl,fillL,evParts,splice,List.take_zero,List.take_succ_cons,List.drop_succ_cons,List.drop_zero,List.drop_nil,loadV,app_n,a1,a2,nl_nil]
      refine gives_lend 1 (v' := .agg [.bool b, nf x, nf y]) ?_ (by simp [V.ro, roL, nf_ro, nsl_ro]) rfl
      simp [lend1, borL, bor, nf, nsl, tx, ty]
      try rfl

/-- The items that the reference makes. -/
def itemR (b : Bool) (n d : Nat) : List V := [.int .u8 1, .bool b, nf (lim n), nf (lim d), .int .i32 0, .sl true [] 0]
theorem good440 (b : Bool) (n d : Nat) (hn : (lim n).length ≤ 1000000) (hd : (lim d).length ≤ 1000000) : Good Go.Proofs.Tryz.prog 152 [rv b n d] (.agg [.sl true [] 0, .sl true (itemR b n d) 1]) := by
  refine good_go mix s440 (Nat.le_of_ble_eq_true rfl) fun e he => ?_
  have e0 : e 0 = rv b n d := he 0
  clear he
  simp only [c440,b440, oQ]
  have hg := good481 b false false (lim n) (lim d) hn hd
  simp -implicitDefEqProofs (disch := omega) only [↓ZD,ZP,cnd_t,cnd_f,↓reduceIte,Env.put,stepO,lenV,binV,binInt,unV,loadV,sliceV,boundOf,convV,slstrV,if_pos,if_neg,Int.reduceToNat,Nat.reducePow,V.cells,V.isCell,V.boxable,Nat.reduceEqDiff,reduceCtorEq,reduceIte,ite_self,enterEnv,e0,rv,fillL,evParts,splice,List.take_zero,List.take_succ_cons,List.drop_succ_cons,List.drop_zero,List.drop_nil,loadV,nf,nsl]
  refine calP_ro (by simp [roL, V.ro, nl_ro, nsl_ro, nf_ro, nls_ro]) hg (by simp [roL, V.ro, nl_ro, nsl_ro, nf_ro, nls_ro]) ?_
  simp -implicitDefEqProofs (disch := omega) only [↓ZD,ZP,cnd_t,cnd_f,↓reduceIte,Env.put,stepO,lenV,binV,binInt,unV,loadV,sliceV,boundOf,convV,slstrV,if_pos,if_neg,Int.reduceToNat,Nat.reducePow,V.cells,V.isCell,V.boxable,Nat.reduceEqDiff,reduceCtorEq,reduceIte,ite_self,enterEnv,e0,rv,fillL,evParts,splice,List.take_zero,List.take_succ_cons,List.drop_succ_cons,List.drop_zero,List.drop_nil,loadV,nf,nsl]
  exact gives_ro (by simp [V.ro, roL, nl_ro])

/-- Items that grow, in memory. -/
def ItAt (H : Heap) (v : V) (l : List Nat) : Prop := (l = [] ∧ v = .sl true [] 0) ∨ ∃ b g, v = .view b g 0 l.length ∧ 2 ≤ b ∧ b < H.length ∧ H[b]? = some (.cells g 6 true (l.map itemC').flatten)
theorem itemsR_len (l : List Nat) : (l.map itemC').flatten.length = l.length * 6 := by
  rw [flat6 _ (fun t ht => by obtain ⟨c, _, rfl⟩ := List.mem_map.1 ht; rfl), List.length_map]
theorem append_it {H : Heap} {v : V} {l : List Nat} (h : ItAt H v l) (c : Nat) (hl : l.length ≤ 100000) (hH : 2 ≤ H.length) :
    ∃ v' H', appendV 6 96 H v (.sl true (itemC' c) 1) = some (v', H') ∧ ItAt H' v' (l ++ [c]) ∧ H'.length ≤ H.length + 1 ∧ H.length ≤ H'.length ∧ (∀ k, k < 2 → H'[k]? = H[k]?) := by
  have hi : (itemC' c).length = 6 := rfl
  have hcell : (itemC' c).all V.isCell = true := rfl
  rcases h with ⟨rfl, rfl⟩ | ⟨b, g, rfl, hb2, hb, hHb⟩
  · refine ⟨.view H.length 0 0 1, H ++ [.cells 0 6 true (itemC' c)], by simp [appendV, srcCells, readSl, hi], .inr ⟨H.length, 0, rfl, hH, by simp, by simp⟩, by simp, by simp, fun k hk => ?_⟩
    rw [List.getElem?_append_left (by omega)]
  · have hil := itemsR_len l
    have q1 : l.length * 6 ≤ (l.map itemC').flatten.length := by omega
    have q2 : (l.length + 1) * 96 ≤ 140737488355328 := by omega
    have q3 : l.length + 1 ≤ 9223372036854775807 := by omega
    have q4 : (l.map itemC').flatten.take (l.length * 6) = (l.map itemC').flatten := by rw [← hil, List.take_length]
    refine ⟨.view b (g + 1) 0 (l.length + 1), H.set b (.cells (g + 1) 6 true ((l.map itemC').flatten ++ itemC' c)), ?_, .inr ⟨b, g + 1, by simp, hb2, by simpa using hb, by simp [hb]⟩, by simp, by simp, fun k hk => ?_⟩
    · generalize (l.map itemC').flatten = F at *
      simp [appendV, srcCells, readSl, hHb, hi, hcell, q1, q2, q3, q4]
    · rw [List.getElem?_set_ne (by omega)]

theorem itAt_set {H : Heap} {v : V} {l : List Nat} (h : ItAt H v l) (x : HObj) : ItAt (H.set 1 x) v l := by
  rcases h with h | ⟨b, g, h1, h2, h3, h4⟩
  · exact .inl h
  · exact .inr ⟨b, g, h1, h2, by simpa using h3, by rw [List.getElem?_set_ne (by omega)]; exact h4⟩

def textR (l : List Nat) : V := .agg [.sl false [.int .i64 (l.length : Nat)] 1, .sl false (if l = [] then itemC' 32 else (l.map itemC').flatten) (if l = [] then 1 else l.length)]
theorem itemsR_ro (l : List Nat) : roL (l.map itemC').flatten = true := roL_of fun v hv => by
  obtain ⟨t, ht, hv⟩ := List.mem_flatten.1 hv
  obtain ⟨c, _, rfl⟩ := List.mem_map.1 ht
  simp only [itemC',List.mem_cons,List.not_mem_nil,or_false] at hv
  rcases hv with rfl | rfl | rfl | rfl | rfl | rfl <;> rfl

set_option maxHeartbeats 1000000 in
theorem good441 (s : List UInt8) (hs : s.length ≤ 4095) : Good Go.Proofs.Tryz.prog 153 [.str s] (textR (rn s)) := by
  refine good_go mix s441 (Nat.le_of_ble_eq_true rfl) fun e he => ?_
  have e0 : e 0 = .str s := he 0
  clear he
  simp only [c441,b441, oQ]
  simp -implicitDefEqProofs (disch := omega) only [↓ZD,ZP,cnd_t,cnd_f,↓reduceIte,Env.put,stepO,lenV,binV,binInt,unV,loadV,sliceV,boundOf,convV,slstrV,if_pos,if_neg,Int.reduceToNat,Nat.reducePow,V.cells,V.isCell,V.boxable,Nat.reduceEqDiff,reduceCtorEq,reduceIte,ite_self,enterEnv,e0,fillL,evParts,splice,List.take_zero,List.take_succ_cons,List.drop_succ_cons,List.drop_zero,List.drop_nil]
  refine go_loop (fun m e H => ∃ pos l v, 2 ≤ H.length ∧ H[0]? = some (.cells 0 0 true [.sl true [] 0, .sl true [] 0]) ∧ H[1]? = some (.iter s pos) ∧ ItAt H v l ∧ pos ≤ s.length ∧ m = s.length - pos ∧ rn s = l ++ rn (s.drop pos) ∧ e 2 = .cell 0 0 0 ∧ e 3 = v ∧ e 8 = .cell 1 0 0)
    s.length ⟨0, [], _, by simp, rfl, rfl, .inl ⟨rfl, rfl⟩, Nat.zero_le _, rfl, by simp, ?_, ?_, ?_⟩ ?_
  · simp [Env.set]
  · simp [Env.set]
  · simp [Env.set]
  clear e0
  rintro m e H ⟨pos, l, v, hH, h0, h1, hit, hpos, rfl, hrn, e2, e3, e8⟩
  have hr := rn_len s
  rcases Nat.lt_or_ge pos s.length with hlt | hge
  · obtain ⟨d1, d2, d3⟩ := drop_dec hlt
    obtain ⟨c, w, hd⟩ : ∃ c w, decL (s.drop pos) = (c, w) := ⟨_, _, rfl⟩
    simp only [hd] at d1 d2 d3
    rw [d3] at hrn
    have hll : l.length < 4095 := by
      have : (rn s).length = l.length + ((rn (s.drop (pos + w))).length + 1) := by rw [hrn]; simp
      omega
    have hit1 := itAt_set hit (.iter s (pos + w))
    obtain ⟨v', H', happ, hit', hle, hge, hk⟩ := append_it hit1 c (by omega) (by simpa using hH)
    rw [itemC'] at happ
    have k0 : H'[0]? = some (.cells 0 0 true [.sl true [] 0, .sl true [] 0]) := by rw [hk 0 (by decide), List.getElem?_set_ne (by decide)]; exact h0
    have k1 : H'[1]? = some (.iter s (pos + w)) := by rw [hk 1 (by decide), List.getElem?_set_self (by omega)]
    have hlen' : 2 ≤ H'.length := by simp at hge; omega
    have hrn' : rn s = (l ++ [c]) ++ rn (s.drop (pos + w)) := by rw [hrn]; simp
    rcases hit with ⟨hl0, hv0⟩ | ⟨b, g, hv0, _, _, _⟩
    · rw [hv0] at happ e3
      rw [hl0] at hll
      simp -implicitDefEqProofs (disch := (first | omega | (simp only [List.length_append,List.length_set,List.length_cons,List.length_nil]; try omega; done))) only [↓ZD,ZP,ZL,cnd_t,cnd_f,↓reduceIte,Env.put,stepO,lenV,binV,binInt,unV,loadV,sliceV,boundOf,convV,slstrV,if_pos,if_neg,Int.reduceToNat,Nat.reducePow,V.cells,V.isCell,V.boxable,Nat.reduceEqDiff,reduceCtorEq,reduceIte,ite_self,enterEnv,e2,e3,e8,h1,hlt,hd,fillL,evParts,splice,List.take_zero,List.take_succ_cons,List.drop_succ_cons,List.drop_zero,List.drop_nil,happ]
      exact ⟨_, by omega, pos + w, l ++ [c], _, hlen', k0, k1, hit', d2, rfl, hrn', rfl⟩
    · rw [hv0] at happ e3
      simp -implicitDefEqProofs (disch := (first | omega | (simp only [List.length_append,List.length_set,List.length_cons,List.length_nil]; try omega; done))) only [↓ZD,ZP,ZL,cnd_t,cnd_f,↓reduceIte,Env.put,stepO,lenV,binV,binInt,unV,loadV,sliceV,boundOf,convV,slstrV,if_pos,if_neg,Int.reduceToNat,Nat.reducePow,V.cells,V.isCell,V.boxable,Nat.reduceEqDiff,reduceCtorEq,reduceIte,ite_self,enterEnv,e2,e3,e8,h1,hlt,hd,fillL,evParts,splice,List.take_zero,List.take_succ_cons,List.drop_succ_cons,List.drop_zero,List.drop_nil,happ]
      exact ⟨_, by omega, pos + w, l ++ [c], _, hlen', k0, k1, hit', d2, rfl, hrn', rfl⟩
  · have hnl : ¬ pos < s.length := by omega
    rw [List.drop_of_length_le hge, rn_nil, List.append_nil] at hrn
    rw [hrn, textR]
    rcases hit with ⟨rfl, rfl⟩ | ⟨b, g, rfl, hb2, hb, hHb⟩
    · simp -implicitDefEqProofs (disch := (first | omega | (simp only [List.length_append,List.length_set,List.length_cons,List.length_nil]; try omega; done))) only [↓ZD,ZP,ZL,cnd_t,cnd_f,↓reduceIte,Env.put,stepO,lenV,binV,binInt,unV,loadV,sliceV,boundOf,convV,slstrV,if_pos,if_neg,Int.reduceToNat,Nat.reducePow,V.cells,V.isCell,V.boxable,Nat.reduceEqDiff,reduceCtorEq,reduceIte,ite_self,enterEnv,e2,e3,e8,h1,hnl,fillL,evParts,splice,List.take_zero,List.take_succ_cons,List.drop_succ_cons,List.drop_zero,List.drop_nil]
      refine calP_ro rfl (good442 32) rfl ?_
      simp -implicitDefEqProofs (disch := (first | omega | (simp only [List.length_append,List.length_set,List.length_cons,List.length_nil]; try omega; done))) only [↓ZD,ZP,ZL,cnd_t,cnd_f,↓reduceIte,Env.put,stepO,lenV,binV,binInt,unV,loadV,sliceV,boundOf,convV,slstrV,if_pos,if_neg,Int.reduceToNat,Nat.reducePow,V.cells,V.isCell,V.boxable,Nat.reduceEqDiff,reduceCtorEq,reduceIte,ite_self,enterEnv,e2,e3,e8,h0,h1,hnl,fillL,evParts,splice,List.take_zero,List.take_succ_cons,List.drop_succ_cons,List.drop_zero,List.drop_nil,loadV]
      have g1 : ((H ++ [HObj.cells 0 1 true [V.int IntKind.i64 ((0 : Nat) : Int)]]).set 0 (.cells 0 0 true [.view H.length 0 0 1, .sl true (itemC' 32) 1]))[H.length]? = some (.cells 0 1 true [.int .i64 ((0 : Nat) : Int)]) := by
        rw [List.getElem?_set_ne (by omega)]; simp
      refine gives_lend 1 (v' := .agg [.sl false [.int .i64 ((0 : Nat) : Int)] 1, .sl true (itemC' 32) 1]) ?_ rfl rfl
      simp only [lend1,borL,bor,g1,if_true,List.drop_zero,Nat.mul_one]
      rfl
    · have hl : l.length ≤ 4095 := by rw [hrn] at hr; omega
      by_cases hl0 : l = []
      · subst hl0
        simp -implicitDefEqProofs (disch := (first | omega | (simp only [List.length_append,List.length_set,List.length_cons,List.length_nil]; try omega; done))) only [↓ZD,ZP,ZL,cnd_t,cnd_f,↓reduceIte,Env.put,stepO,lenV,binV,binInt,unV,loadV,sliceV,boundOf,convV,slstrV,if_pos,if_neg,Int.reduceToNat,Nat.reducePow,V.cells,V.isCell,V.boxable,Nat.reduceEqDiff,reduceCtorEq,reduceIte,ite_self,enterEnv,e2,e3,e8,h1,hnl,fillL,evParts,splice,List.take_zero,List.take_succ_cons,List.drop_succ_cons,List.drop_zero,List.drop_nil]
        refine calP_ro rfl (good442 32) rfl ?_
        simp -implicitDefEqProofs (disch := (first | omega | (simp only [List.length_append,List.length_set,List.length_cons,List.length_nil]; try omega; done))) only [↓ZD,ZP,ZL,cnd_t,cnd_f,↓reduceIte,Env.put,stepO,lenV,binV,binInt,unV,loadV,sliceV,boundOf,convV,slstrV,if_pos,if_neg,Int.reduceToNat,Nat.reducePow,V.cells,V.isCell,V.boxable,Nat.reduceEqDiff,reduceCtorEq,reduceIte,ite_self,enterEnv,e2,e3,e8,h0,h1,hnl,fillL,evParts,splice,List.take_zero,List.take_succ_cons,List.drop_succ_cons,List.drop_zero,List.drop_nil,loadV]
        have g1 : ((H ++ [HObj.cells 0 1 true [V.int IntKind.i64 ((0 : Nat) : Int)]]).set 0 (.cells 0 0 true [.view H.length 0 0 1, .sl true (itemC' 32) 1]))[H.length]? = some (.cells 0 1 true [.int .i64 ((0 : Nat) : Int)]) := by
          rw [List.getElem?_set_ne (by omega)]; simp
        refine gives_lend 1 (v' := .agg [.sl false [.int .i64 ((0 : Nat) : Int)] 1, .sl true (itemC' 32) 1]) ?_ rfl rfl
        simp only [lend1,borL,bor,g1,if_true,List.drop_zero,Nat.mul_one]
        rfl
      · have hlp : 0 < l.length := List.length_pos_iff.2 hl0
        rw [if_neg hl0, if_neg hl0]
        simp -implicitDefEqProofs (disch := (first | omega | (simp only [List.length_append,List.length_set,List.length_cons,List.length_nil]; try omega; done))) only [↓ZD,ZP,ZL,cnd_t,cnd_f,↓reduceIte,Env.put,stepO,lenV,binV,binInt,unV,loadV,sliceV,boundOf,convV,slstrV,if_pos,if_neg,Int.reduceToNat,Nat.reducePow,V.cells,V.isCell,V.boxable,Nat.reduceEqDiff,reduceCtorEq,reduceIte,ite_self,enterEnv,e2,e3,e8,h0,h1,hnl,fillL,evParts,splice,List.take_zero,List.take_succ_cons,List.drop_succ_cons,List.drop_zero,List.drop_nil,loadV]
        have hil := itemsR_len l
        have hro := itemsR_ro l
        generalize (l.map itemC').flatten = F at *
        have hF : F.take (l.length * 6) = F := by rw [← hil, List.take_length]
        have g1 : ((H ++ [HObj.cells 0 1 true [V.int IntKind.i64 (l.length : Int)]]).set 0 (.cells 0 0 true [.view H.length 0 0 1, .view b g 0 l.length]))[H.length]? = some (.cells 0 1 true [.int .i64 (l.length : Int)]) := by
          rw [List.getElem?_set_ne (by omega)]; simp
        have g2 : ((H ++ [HObj.cells 0 1 true [V.int IntKind.i64 (l.length : Int)]]).set 0 (.cells 0 0 true [.view H.length 0 0 1, .view b g 0 l.length]))[b]? = some (.cells g 6 true F) := by
          rw [List.getElem?_set_ne (by omega), List.getElem?_append_left hb]; exact hHb
        refine gives_lend 1 (v' := .agg [.sl false [.int .i64 (l.length : Int)] 1, .sl false F l.length]) ?_ (by simp [V.ro, roL, hro]) rfl
        simp only [lend1,borL,bor,g1,g2,if_true,List.drop_zero,Nat.mul_one,hF]
        rfl
end Fe
