/-
  Contracts. No condition.
-/
import Derived.Test.YtfpgfjmngkfdoaaGreatDoorFjA
set_option linter.unusedSimpArgs false
set_option linter.unusedVariables false
open Go Go.Proofs
namespace Fe
def b614 : C :=
 (.seq
 (.region false [
 oQ 2 (.mov (.c (.bool false)))])
 (.seq
 (.seq
 (.region false [
 oQ 6 (.mov (.t 0)),
 oQ 7 (.bin 0 .eql (.t 6) (.c (.str [226, 141, 186]))),
 oQ 8 (.mov (.t 7)),
 ⟨some 9, .op (.mov (.t 0)), some (8, false)⟩,
 ⟨some 10, .op (.bin 0 .eql (.t 9) (.c (.str [226, 141, 181]))), some (8, false)⟩,
 oQ 11 (.pick (.t 8) (.c (.bool true)) (.t 10))])
 (.cond (.t 11)
 (.seq
 (.region false [
 oQ 2 (.mov (.c (.bool true)))])
 .ret)
 .skip))
 (.seq
 (.region false [
 oQ 13 (.mov (.t 0)),
 ⟨some 14, .call false (.c (.fn 57 [] [])) [.t 13], none⟩,
 oQ 12 (.mov (.t 14)),
 oQ 15 (.extract (.t 12) 0),
 oQ 16 (.extract (.t 12) 1),
 oQ 17 (.extract (.t 12) 2),
 oQ 3 (.mov (.t 15)),
 oQ 4 (.mov (.t 16)),
 oQ 5 (.mov (.t 17))])
 (.seq
 (.region false [
 oQ 18 (.mov (.t 4)),
 oQ 19 (.bin 0 .eql (.t 18) (.c (.int .i64 0))),
 oQ 20 (.mov (.t 19)),
 ⟨some 21, .op (.mov (.t 3)), some (20, true)⟩,
 ⟨some 22, .op (.iaddr 5 (.t 21) (.c (.int .i64 0))), some (20, true)⟩,
 ⟨some 23, .op (.faddr 0 (.t 22)), some (20, true)⟩,
 ⟨some 24, .op (.load false 1 (.t 23)), some (20, true)⟩,
 ⟨some 25, .op (.bin 0 .eql (.t 24) (.c (.int .u8 3))), some (20, true)⟩,
 oQ 26 (.pick (.t 20) (.t 25) (.c (.bool false))),
 oQ 27 (.mov (.t 26)),
 ⟨some 28, .op (.mov (.t 3)), some (27, true)⟩,
 ⟨some 29, .op (.iaddr 5 (.t 28) (.c (.int .i64 0))), some (27, true)⟩,
 ⟨some 30, .op (.faddr 1 (.t 29)), some (27, true)⟩,
 ⟨some 31, .op (.load false 1 (.t 30)), some (27, true)⟩,
 ⟨some 32, .op (.mov (.t 0)), some (27, true)⟩,
 ⟨some 33, .op (.bin 0 .eql (.t 31) (.t 32)), some (27, true)⟩,
 oQ 34 (.pick (.t 27) (.t 33) (.c (.bool false))),
 oQ 2 (.mov (.t 34))])
 .ret))))
def c614 : CF := ⟨35, 1, [.mov (.t 2)], b614⟩
def b615 : C :=
 (.seq
 (.region false [
 oQ 2 (.mov (.c (.bool false)))])
 (.seq
 (.seq
 (.region false [
 oQ 6 (.mov (.t 0)),
 oQ 7 (.bin 0 .eql (.t 6) (.c (.str [226, 141, 186]))),
 oQ 8 (.mov (.t 7)),
 ⟨some 9, .op (.mov (.t 0)), some (8, false)⟩,
 ⟨some 10, .op (.bin 0 .eql (.t 9) (.c (.str [226, 141, 181]))), some (8, false)⟩,
 oQ 11 (.pick (.t 8) (.c (.bool true)) (.t 10))])
 (.cond (.t 11)
 (.seq
 (.region false [
 oQ 2 (.mov (.c (.bool true)))])
 .ret)
 .skip))
 (.seq
 (.region false [
 oQ 13 (.mov (.t 0)),
 ⟨some 14, .call false (.c (.fn 58 [] [])) [.t 13], none⟩,
 oQ 12 (.mov (.t 14)),
 oQ 15 (.extract (.t 12) 0),
 oQ 16 (.extract (.t 12) 1),
 oQ 17 (.extract (.t 12) 2),
 oQ 3 (.mov (.t 15)),
 oQ 4 (.mov (.t 16)),
 oQ 5 (.mov (.t 17))])
 (.seq
 (.region false [
 oQ 18 (.mov (.t 4)),
 oQ 19 (.bin 0 .eql (.t 18) (.c (.int .i64 0))),
 oQ 20 (.mov (.t 19)),
 ⟨some 21, .op (.mov (.t 3)), some (20, true)⟩,
 ⟨some 22, .op (.len false (.t 21)), some (20, true)⟩,
 ⟨some 23, .op (.bin 0 .eql (.t 22) (.c (.int .i64 2))), some (20, true)⟩,
 oQ 24 (.pick (.t 20) (.t 23) (.c (.bool false))),
 oQ 25 (.mov (.t 24)),
 ⟨some 26, .op (.mov (.t 3)), some (25, true)⟩,
 ⟨some 27, .op (.iaddr 5 (.t 26) (.c (.int .i64 0))), some (25, true)⟩,
 ⟨some 28, .op (.faddr 0 (.t 27)), some (25, true)⟩,
 ⟨some 29, .op (.load false 1 (.t 28)), some (25, true)⟩,
 ⟨some 30, .op (.bin 0 .eql (.t 29) (.c (.int .i64 3))), some (25, true)⟩,
 oQ 31 (.pick (.t 25) (.t 30) (.c (.bool false))),
 oQ 32 (.mov (.t 31)),
 ⟨some 33, .op (.mov (.t 3)), some (32, true)⟩,
 ⟨some 34, .op (.iaddr 5 (.t 33) (.c (.int .i64 0))), some (32, true)⟩,
 ⟨some 35, .op (.faddr 1 (.t 34)), some (32, true)⟩,
 ⟨some 36, .op (.load false 1 (.t 35)), some (32, true)⟩,
 ⟨some 37, .op (.mov (.t 0)), some (32, true)⟩,
 ⟨some 38, .op (.bin 0 .eql (.t 36) (.t 37)), some (32, true)⟩,
 oQ 39 (.pick (.t 32) (.t 38) (.c (.bool false))),
 oQ 2 (.mov (.t 39))])
 .ret))))
def c615 : CF := ⟨40, 1, [.mov (.t 2)], b615⟩
def b603 : C :=
 (.seq
 (.region false [
 oQ 2 (.mov (.c (.bool false)))])
 (.seq
 (.region false [
 ⟨some 3, .call false (.c (.fn 13 [] [])) [], none⟩,
 oQ 4 (.mov (.t 3)),
 ⟨some 5, .op (.mov (.t 0)), some (4, true)⟩,
 ⟨some 6, .call false (.c (.fn 14 [] [])) [.t 5], some (4, true)⟩,
 ⟨some 7, .op (.mov (.t 0)), some (4, true)⟩,
 ⟨some 8, .call false (.c (.fn 15 [] [])) [.t 7], some (4, true)⟩,
 ⟨some 9, .op (.bin 1 .eql (.t 6) (.t 8)), some (4, true)⟩,
 oQ 10 (.pick (.t 4) (.t 9) (.c (.bool false))),
 oQ 2 (.mov (.t 10))])
 .ret))
def c603 : CF := ⟨11, 1, [.mov (.t 2)], b603⟩
theorem s614 : stripF Go.Proofs.Tryz.prog 14 = some c614 := by kernel_rfl
theorem s615 : stripF Go.Proofs.Tryz.prog 15 = some c615 := by kernel_rfl
theorem s603 : stripF Go.Proofs.Tryz.prog 3 = some c603 := by kernel_rfl

/-- Both tell the same of each text. -/
theorem isName_both (s : List UInt8) : ∃ b, Good Go.Proofs.Tryz.prog 14 [.str s] (.bool b) ∧ Good Go.Proofs.Tryz.prog 15 [.str s] (.bool b) := by
  have h5 := good5 s
  have h8 := good408 s
  by_cases s1 : s = [226, 141, 186]
  · have b1 : (s == [226, 141, 186]) = true := by rw [beq_iff_eq]; exact s1
    refine ⟨true, good_go mix s614 (Nat.le_of_ble_eq_true rfl) fun e he => ?_, good_go mix s615 (Nat.le_of_ble_eq_true rfl) fun e he => ?_⟩
    · have e0 : e 0 = .str s := he 0
      clear he
      simp only [c614,b614, oQ]
      simp -implicitDefEqProofs (disch := omega) only [↓ZD,ZP,cnd_t,cnd_f,↓reduceIte,Env.put,stepO,lenV,binV,binInt,unV,loadV,sliceV,boundOf,convV,slstrV,if_pos,if_neg,Int.reduceToNat,Nat.reducePow,V.cells,V.isCell,V.boxable,Nat.reduceEqDiff,reduceCtorEq,reduceIte,ite_self,enterEnv,e0,binStr,b1]
      exact gives_eq rfl rfl
    · have e0 : e 0 = .str s := he 0
      clear he
      simp only [c615,b615, oQ]
      simp -implicitDefEqProofs (disch := omega) only [↓ZD,ZP,cnd_t,cnd_f,↓reduceIte,Env.put,stepO,lenV,binV,binInt,unV,loadV,sliceV,boundOf,convV,slstrV,if_pos,if_neg,Int.reduceToNat,Nat.reducePow,V.cells,V.isCell,V.boxable,Nat.reduceEqDiff,reduceCtorEq,reduceIte,ite_self,enterEnv,e0,binStr,b1]
      exact gives_eq rfl rfl
  have b1 : (s == [226, 141, 186]) = false := by rw [beq_eq_false_iff_ne]; exact s1
  by_cases s2 : s = [226, 141, 181]
  · have b2 : (s == [226, 141, 181]) = true := by rw [beq_iff_eq]; exact s2
    refine ⟨true, good_go mix s614 (Nat.le_of_ble_eq_true rfl) fun e he => ?_, good_go mix s615 (Nat.le_of_ble_eq_true rfl) fun e he => ?_⟩
    · have e0 : e 0 = .str s := he 0
      clear he
      simp only [c614,b614, oQ]
      simp -implicitDefEqProofs (disch := omega) only [↓ZD,ZP,cnd_t,cnd_f,↓reduceIte,Env.put,stepO,lenV,binV,binInt,unV,loadV,sliceV,boundOf,convV,slstrV,if_pos,if_neg,Int.reduceToNat,Nat.reducePow,V.cells,V.isCell,V.boxable,Nat.reduceEqDiff,reduceCtorEq,reduceIte,ite_self,enterEnv,e0,binStr,b1,b2]
      exact gives_eq rfl rfl
    · have e0 : e 0 = .str s := he 0
      clear he
      simp only [c615,b615, oQ]
      simp -implicitDefEqProofs (disch := omega) only [↓ZD,ZP,cnd_t,cnd_f,↓reduceIte,Env.put,stepO,lenV,binV,binInt,unV,loadV,sliceV,boundOf,convV,slstrV,if_pos,if_neg,Int.reduceToNat,Nat.reducePow,V.cells,V.isCell,V.boxable,Nat.reduceEqDiff,reduceCtorEq,reduceIte,ite_self,enterEnv,e0,binStr,b1,b2]
      exact gives_eq rfl rfl
  have b2 : (s == [226, 141, 181]) = false := by rw [beq_eq_false_iff_ne]; exact s2
  clear s1 s2
  rcases both_cases s with ⟨er, j, hne, h1, h2⟩ | ⟨ts, _, _, hL, hok, hn, h1, h2⟩
  · rw [h1] at h5
    rw [h2] at h8
    refine ⟨false, good_go mix s614 (Nat.le_of_ble_eq_true rfl) fun e he => ?_, good_go mix s615 (Nat.le_of_ble_eq_true rfl) fun e he => ?_⟩
    · have e0 : e 0 = .str s := he 0
      clear he
      simp only [c614,b614, oQ]
      simp -implicitDefEqProofs (disch := omega) only [↓ZD,ZP,cnd_t,cnd_f,↓reduceIte,Env.put,stepO,lenV,binV,binInt,unV,loadV,sliceV,boundOf,convV,slstrV,if_pos,if_neg,Int.reduceToNat,Nat.reducePow,V.cells,V.isCell,V.boxable,Nat.reduceEqDiff,reduceCtorEq,reduceIte,ite_self,enterEnv,e0,binStr,b1,b2]
      refine calP_ro rfl h5 rfl ?_
      simp -implicitDefEqProofs (disch := omega) only [↓ZD,ZP,cnd_t,cnd_f,↓reduceIte,Env.put,stepO,lenV,binV,binInt,unV,loadV,sliceV,boundOf,convV,slstrV,if_pos,if_neg,Int.reduceToNat,Nat.reducePow,V.cells,V.isCell,V.boxable,Nat.reduceEqDiff,reduceCtorEq,reduceIte,ite_self,enterEnv,e0]
      exact gives_eq rfl rfl
    · have e0 : e 0 = .str s := he 0
      clear he
      simp only [c615,b615, oQ]
      simp -implicitDefEqProofs (disch := omega) only [↓ZD,ZP,cnd_t,cnd_f,↓reduceIte,Env.put,stepO,lenV,binV,binInt,unV,loadV,sliceV,boundOf,convV,slstrV,if_pos,if_neg,Int.reduceToNat,Nat.reducePow,V.cells,V.isCell,V.boxable,Nat.reduceEqDiff,reduceCtorEq,reduceIte,ite_self,enterEnv,e0,binStr,b1,b2]
      refine calP_ro rfl h8 rfl ?_
      simp -implicitDefEqProofs (disch := omega) only [↓ZD,ZP,cnd_t,cnd_f,↓reduceIte,Env.put,stepO,lenV,binV,binInt,unV,loadV,sliceV,boundOf,convV,slstrV,if_pos,if_neg,Int.reduceToNat,Nat.reducePow,V.cells,V.isCell,V.boxable,Nat.reduceEqDiff,reduceCtorEq,reduceIte,ite_self,enterEnv,e0]
      exact gives_eq rfl rfl
  · obtain ⟨r1, r2⟩ := ok_ro ts hok
    rw [h1] at h5
    rw [h2] at h8
    obtain ⟨t, r, rfl, hw⟩ := first_whole hL
    have i0 : ((t :: r).map Tk.L).flatten[0]? = some (.int .u8 (t.kind : Nat)) := rfl
    have i1 : ((t :: r).map Tk.L).flatten[1]? = some (.str t.text) := rfl
    have j0 : ((t :: r).map Tk.R).flatten[0]? = some (.int .i64 (t.kind : Nat)) := rfl
    have j1 : ((t :: r).map Tk.R).flatten[1]? = some (.str t.text) := rfl
    have hlen : (t :: r).length = r.length + 1 := rfl
    generalize ((t :: r).map Tk.L).flatten = LL at *
    generalize ((t :: r).map Tk.R).flatten = RR at *
    rw [hlen] at h5 h8 hn
    have ro5 : (V.tup [.sl false LL (r.length + 1), .int .i64 0, .int .i64 0]).ro = true := by simp [V.ro, roL, r1]
    have ro8 : (V.tup [.sl false RR (r.length + 1), .int .i64 0, .int .i64 0]).ro = true := by simp [V.ro, roL, r2]
    by_cases k1 : t.kind = 3
    · by_cases k2 : t.text = s
      · have hr := hw k1 k2
        have b3 : (t.text == s) = true := by rw [beq_iff_eq]; exact k2
        refine ⟨true, good_go mix s614 (Nat.le_of_ble_eq_true rfl) fun e he => ?_, good_go mix s615 (Nat.le_of_ble_eq_true rfl) fun e he => ?_⟩
        · have e0 : e 0 = .str s := he 0
          clear he
          simp only [c614,b614, oQ]
          simp -implicitDefEqProofs (disch := omega) only [↓ZD,ZP,cnd_t,cnd_f,↓reduceIte,Env.put,stepO,lenV,binV,binInt,unV,loadV,sliceV,boundOf,convV,slstrV,if_pos,if_neg,Int.reduceToNat,Nat.reducePow,V.cells,V.isCell,V.boxable,Nat.reduceEqDiff,reduceCtorEq,reduceIte,ite_self,enterEnv,e0,binStr,b1,b2]
          refine calP_ro rfl h5 ro5 ?_
          simp -implicitDefEqProofs (disch := omega) only [↓ZD,ZP,cnd_t,cnd_f,↓reduceIte,Env.put,stepO,lenV,binV,binInt,unV,loadV,sliceV,boundOf,convV,slstrV,if_pos,if_neg,Int.reduceToNat,Nat.reducePow,V.cells,V.isCell,V.boxable,Nat.reduceEqDiff,reduceCtorEq,reduceIte,ite_self,enterEnv,e0,i0,i1,k1,b3,binStr,loadV]
          exact gives_eq rfl rfl
        · have e0 : e 0 = .str s := he 0
          clear he
          simp only [c615,b615, oQ]
          simp -implicitDefEqProofs (disch := omega) only [↓ZD,ZP,cnd_t,cnd_f,↓reduceIte,Env.put,stepO,lenV,binV,binInt,unV,loadV,sliceV,boundOf,convV,slstrV,if_pos,if_neg,Int.reduceToNat,Nat.reducePow,V.cells,V.isCell,V.boxable,Nat.reduceEqDiff,reduceCtorEq,reduceIte,ite_self,enterEnv,e0,binStr,b1,b2]
          refine calP_ro rfl h8 ro8 ?_
          simp -implicitDefEqProofs (disch := omega) only [↓ZD,ZP,cnd_t,cnd_f,↓reduceIte,Env.put,stepO,lenV,binV,binInt,unV,loadV,sliceV,boundOf,convV,slstrV,if_pos,if_neg,Int.reduceToNat,Nat.reducePow,V.cells,V.isCell,V.boxable,Nat.reduceEqDiff,reduceCtorEq,reduceIte,ite_self,enterEnv,e0,j0,j1,k1,b3,binStr,loadV,hr]
          exact gives_eq rfl rfl
      · have b3 : (t.text == s) = false := by rw [beq_eq_false_iff_ne]; exact k2
        refine ⟨false, good_go mix s614 (Nat.le_of_ble_eq_true rfl) fun e he => ?_, good_go mix s615 (Nat.le_of_ble_eq_true rfl) fun e he => ?_⟩
        · have e0 : e 0 = .str s := he 0
          clear he
          simp only [c614,b614, oQ]
          simp -implicitDefEqProofs (disch := omega) only [↓ZD,ZP,cnd_t,cnd_f,↓reduceIte,Env.put,stepO,lenV,binV,binInt,unV,loadV,sliceV,boundOf,convV,slstrV,if_pos,if_neg,Int.reduceToNat,Nat.reducePow,V.cells,V.isCell,V.boxable,Nat.reduceEqDiff,reduceCtorEq,reduceIte,ite_self,enterEnv,e0,binStr,b1,b2]
          refine calP_ro rfl h5 ro5 ?_
          simp -implicitDefEqProofs (disch := omega) only [↓ZD,ZP,cnd_t,cnd_f,↓reduceIte,Env.put,stepO,lenV,binV,binInt,unV,loadV,sliceV,boundOf,convV,slstrV,if_pos,if_neg,Int.reduceToNat,Nat.reducePow,V.cells,V.isCell,V.boxable,Nat.reduceEqDiff,reduceCtorEq,reduceIte,ite_self,enterEnv,e0,i0,i1,k1,b3,binStr,loadV]
          exact gives_eq rfl rfl
        · have e0 : e 0 = .str s := he 0
          clear he
          simp only [c615,b615, oQ]
          simp -implicitDefEqProofs (disch := omega) only [↓ZD,ZP,cnd_t,cnd_f,↓reduceIte,Env.put,stepO,lenV,binV,binInt,unV,loadV,sliceV,boundOf,convV,slstrV,if_pos,if_neg,Int.reduceToNat,Nat.reducePow,V.cells,V.isCell,V.boxable,Nat.reduceEqDiff,reduceCtorEq,reduceIte,ite_self,enterEnv,e0,binStr,b1,b2]
          refine calP_ro rfl h8 ro8 ?_
          by_cases hr : r.length = 1
          · simp -implicitDefEqProofs (disch := omega) only [↓ZD,ZP,cnd_t,cnd_f,↓reduceIte,Env.put,stepO,lenV,binV,binInt,unV,loadV,sliceV,boundOf,convV,slstrV,if_pos,if_neg,Int.reduceToNat,Nat.reducePow,V.cells,V.isCell,V.boxable,Nat.reduceEqDiff,reduceCtorEq,reduceIte,ite_self,enterEnv,e0,j0,j1,k1,b3,binStr,loadV,hr]
            exact gives_eq rfl rfl
          · simp -implicitDefEqProofs (disch := omega) only [↓ZD,ZP,cnd_t,cnd_f,↓reduceIte,Env.put,stepO,lenV,binV,binInt,unV,loadV,sliceV,boundOf,convV,slstrV,if_pos,if_neg,Int.reduceToNat,Nat.reducePow,V.cells,V.isCell,V.boxable,Nat.reduceEqDiff,reduceCtorEq,reduceIte,ite_self,enterEnv,e0,j0,j1,k1,b3,binStr,loadV]
            exact gives_eq rfl rfl
    · refine ⟨false, good_go mix s614 (Nat.le_of_ble_eq_true rfl) fun e he => ?_, good_go mix s615 (Nat.le_of_ble_eq_true rfl) fun e he => ?_⟩
      · have e0 : e 0 = .str s := he 0
        clear he
        simp only [c614,b614, oQ]
        simp -implicitDefEqProofs (disch := omega) only [↓ZD,ZP,cnd_t,cnd_f,↓reduceIte,Env.put,stepO,lenV,binV,binInt,unV,loadV,sliceV,boundOf,convV,slstrV,if_pos,if_neg,Int.reduceToNat,Nat.reducePow,V.cells,V.isCell,V.boxable,Nat.reduceEqDiff,reduceCtorEq,reduceIte,ite_self,enterEnv,e0,binStr,b1,b2]
        refine calP_ro rfl h5 ro5 ?_
        simp -implicitDefEqProofs (disch := omega) only [↓ZD,ZP,cnd_t,cnd_f,↓reduceIte,Env.put,stepO,lenV,binV,binInt,unV,loadV,sliceV,boundOf,convV,slstrV,if_pos,if_neg,Int.reduceToNat,Nat.reducePow,V.cells,V.isCell,V.boxable,Nat.reduceEqDiff,reduceCtorEq,reduceIte,ite_self,enterEnv,e0,i0,i1,binStr,loadV]
        exact gives_eq rfl rfl
      · have e0 : e 0 = .str s := he 0
        clear he
        simp only [c615,b615, oQ]
        simp -implicitDefEqProofs (disch := omega) only [↓ZD,ZP,cnd_t,cnd_f,↓reduceIte,Env.put,stepO,lenV,binV,binInt,unV,loadV,sliceV,boundOf,convV,slstrV,if_pos,if_neg,Int.reduceToNat,Nat.reducePow,V.cells,V.isCell,V.boxable,Nat.reduceEqDiff,reduceCtorEq,reduceIte,ite_self,enterEnv,e0,binStr,b1,b2]
        refine calP_ro rfl h8 ro8 ?_
        by_cases hr : r.length = 1
        · simp -implicitDefEqProofs (disch := omega) only [↓ZD,ZP,cnd_t,cnd_f,↓reduceIte,Env.put,stepO,lenV,binV,binInt,unV,loadV,sliceV,boundOf,convV,slstrV,if_pos,if_neg,Int.reduceToNat,Nat.reducePow,V.cells,V.isCell,V.boxable,Nat.reduceEqDiff,reduceCtorEq,reduceIte,ite_self,enterEnv,e0,j0,j1,binStr,loadV,hr]
          exact gives_eq rfl rfl
        · simp -implicitDefEqProofs (disch := omega) only [↓ZD,ZP,cnd_t,cnd_f,↓reduceIte,Env.put,stepO,lenV,binV,binInt,unV,loadV,sliceV,boundOf,convV,slstrV,if_pos,if_neg,Int.reduceToNat,Nat.reducePow,V.cells,V.isCell,V.boxable,Nat.reduceEqDiff,reduceCtorEq,reduceIte,ite_self,enterEnv,e0,j0,j1,binStr,loadV]
          exact gives_eq rfl rfl

/-! ### live, reckoned -/
def cloneT (f : FuncId) (ar : List V) (H : Heap) : Option (V × Heap) :=
  if f = 84 then cloneX 1 16 ar H else if f = 198 then cloneX 1 4 ar H else if f = 228 then cloneHX 1 8 ar H else none
theorem sCl1 : stripF Go.Proofs.Tryz.prog 84 = some (cloneC 1 16) := by kernel_rfl
theorem sCl2 : stripF Go.Proofs.Tryz.prog 198 = some (cloneC 1 4) := by kernel_rfl
theorem sCl3 : stripF Go.Proofs.Tryz.prog 228 = some (cloneHC 1 8) := by kernel_rfl
theorem cloneT_ok : ExtOK Go.Proofs.Tryz.prog cloneT := by
  intro f ar H v H' h
  unfold cloneT at h
  split at h
  · rename_i hf; subst hf; exact clone_ok mix sCl1 h
  split at h
  · rename_i hf; subst hf; exact clone_ok mix sCl2 h
  split at h
  · rename_i hf; subst hf; exact cloneH_ok mix sCl3 h
  cases h
def intV (n : Int) (ex : Bool) : V := .agg [.sl false [] 0, .sl false [.int .u8 1, .bool false, .sl false [.int .u32 n] 1, .sl false [.int .u32 1] 1, .int .i32 0, .sl ex [] 0] 1]
theorem goodA : Good Go.Proofs.Tryz.prog 14 [.str [65]] (.bool true) := good_evr (T := stripF Go.Proofs.Tryz.prog) mix (fun _ _ h => h) cloneT_ok 2000 (by kernel_rfl)
theorem goodI1 : Good Go.Proofs.Tryz.prog 55 [.int .i64 1] (intV 1 true) := good_evr (T := stripF Go.Proofs.Tryz.prog) mix (fun _ _ h => h) cloneT_ok 2000 (by kernel_rfl)
theorem goodI2 : Good Go.Proofs.Tryz.prog 55 [.int .i64 2] (intV 2 true) := good_evr (T := stripF Go.Proofs.Tryz.prog) mix (fun _ _ h => h) cloneT_ok 2000 (by kernel_rfl)
theorem goodR1 : Good Go.Proofs.Tryz.prog 67 [intV 1 false] (.bool true) := good_evr (T := stripF Go.Proofs.Tryz.prog) mix (fun _ _ h => h) cloneT_ok 2000 (by kernel_rfl)
theorem goodR2 : Good Go.Proofs.Tryz.prog 67 [intV 2 false] (.bool true) := good_evr (T := stripF Go.Proofs.Tryz.prog) mix (fun _ _ h => h) cloneT_ok 2000 (by kernel_rfl)
def memo1 : Memo := [(14, [.str [65]], .bool true), (55, [.int .i64 1], intV 1 true), (55, [.int .i64 2], intV 2 true), (67, [intV 1 false], .bool true), (67, [intV 2 false], .bool true)]
theorem memo1_ok : MemoOK Go.Proofs.Tryz.prog memo1 := by
  intro m hm
  simp only [memo1,List.mem_cons,List.not_mem_nil,or_false] at hm
  rcases hm with rfl | rfl | rfl | rfl | rfl
  · exact goodA
  · exact goodI1
  · exact goodI2
  · exact goodR1
  · exact goodR2
theorem good613 : Good Go.Proofs.Tryz.prog 13 [] (.bool true) := good_evr (T := stripF Go.Proofs.Tryz.prog) mix (fun _ _ h => h) (memo_ok memo1_ok cloneT_ok) 2000 (by kernel_rfl)

theorem good603 (s : List UInt8) : Good Go.Proofs.Tryz.prog 3 [.str s] (.bool true) := by
  obtain ⟨b, h14, h15⟩ := isName_both s
  refine good_go mix s603 (Nat.le_of_ble_eq_true rfl) fun e he => ?_
  have e0 : e 0 = .str s := he 0
  clear he
  simp only [c603,b603, oQ]
  simp -implicitDefEqProofs (disch := omega) only [↓ZD,ZP,cnd_t,cnd_f,↓reduceIte,Env.put,stepO,lenV,binV,binInt,unV,loadV,sliceV,boundOf,convV,slstrV,if_pos,if_neg,Int.reduceToNat,Nat.reducePow,V.cells,V.isCell,V.boxable,Nat.reduceEqDiff,reduceCtorEq,reduceIte,ite_self,enterEnv,e0]
  refine calP_ro rfl good613 rfl ?_
  simp -implicitDefEqProofs (disch := omega) only [↓ZD,ZP,cnd_t,cnd_f,↓reduceIte,Env.put,stepO,lenV,binV,binInt,unV,loadV,sliceV,boundOf,convV,slstrV,if_pos,if_neg,Int.reduceToNat,Nat.reducePow,V.cells,V.isCell,V.boxable,Nat.reduceEqDiff,reduceCtorEq,reduceIte,ite_self,enterEnv,e0]
  refine calP_ro rfl h14 rfl ?_
  simp -implicitDefEqProofs (disch := omega) only [↓ZD,ZP,cnd_t,cnd_f,↓reduceIte,Env.put,stepO,lenV,binV,binInt,unV,loadV,sliceV,boundOf,convV,slstrV,if_pos,if_neg,Int.reduceToNat,Nat.reducePow,V.cells,V.isCell,V.boxable,Nat.reduceEqDiff,reduceCtorEq,reduceIte,ite_self,enterEnv,e0]
  refine calP_ro rfl h15 rfl ?_
  simp -implicitDefEqProofs (disch := omega) only [↓ZD,ZP,cnd_t,cnd_f,↓reduceIte,Env.put,stepO,lenV,binV,binInt,unV,loadV,sliceV,boundOf,convV,slstrV,if_pos,if_neg,Int.reduceToNat,Nat.reducePow,V.cells,V.isCell,V.boxable,Nat.reduceEqDiff,reduceCtorEq,reduceIte,ite_self,enterEnv,e0]
  exact gives_eq rfl rfl
end Fe
