/-
  Contracts: characters of a line, texts in quotes. No condition.
-/
import Derived.Test.YtjgjfabmakkooaaFfE
set_option linter.unusedSimpArgs false
set_option linter.unusedVariables false
open Go Go.Proofs
namespace Fe
def b46 : C :=
 (.seq
 (.region false [
 oQ 2 (.mov (.c (.bool false)))])
 (.seq
 (.region false [
 oQ 3 (.mov (.t 0)),
 oQ 4 (.bin 0 .geq (.t 3) (.c (.int .i32 48))),
 oQ 5 (.mov (.t 4)),
 ⟨some 6, .op (.mov (.t 0)), some (5, true)⟩,
 ⟨some 7, .op (.bin 0 .leq (.t 6) (.c (.int .i32 57))), some (5, true)⟩,
 oQ 8 (.pick (.t 5) (.t 7) (.c (.bool false))),
 oQ 2 (.mov (.t 8))])
 .ret))
def c46 : CF := ⟨9, 1, [.mov (.t 2)], b46⟩
def b52 : C :=
 (.seq
 (.region false [
 oQ 2 (.mov (.c (.bool false)))])
 (.seq
 (.region false [
 oQ 3 (.mov (.t 0)),
 ⟨some 4, .call false (.c (.fn 55 [] [])) [.t 3], none⟩,
 oQ 5 (.mov (.t 4)),
 ⟨some 6, .op (.mov (.t 0)), some (5, false)⟩,
 ⟨some 7, .call false (.c (.fn 56 [] [])) [.t 6], some (5, false)⟩,
 oQ 8 (.pick (.t 5) (.c (.bool true)) (.t 7)),
 oQ 9 (.mov (.t 8)),
 ⟨some 10, .op (.mov (.t 0)), some (9, false)⟩,
 ⟨some 11, .op (.bin 0 .eql (.t 10) (.c (.int .i32 95))), some (9, false)⟩,
 oQ 12 (.pick (.t 9) (.c (.bool true)) (.t 11)),
 oQ 13 (.mov (.t 12)),
 ⟨some 14, .op (.mov (.t 0)), some (13, false)⟩,
 ⟨some 15, .op (.bin 0 .eql (.t 14) (.c (.int .i32 8710))), some (13, false)⟩,
 oQ 16 (.pick (.t 13) (.c (.bool true)) (.t 15)),
 oQ 2 (.mov (.t 16))])
 .ret))
def c52 : CF := ⟨17, 1, [.mov (.t 2)], b52⟩
def b55 : C :=
 (.seq
 (.region false [
 oQ 2 (.mov (.c (.bool false)))])
 (.seq
 (.region false [
 oQ 3 (.mov (.t 0)),
 oQ 4 (.bin 0 .geq (.t 3) (.c (.int .i32 65))),
 oQ 5 (.mov (.t 4)),
 ⟨some 6, .op (.mov (.t 0)), some (5, true)⟩,
 ⟨some 7, .op (.bin 0 .leq (.t 6) (.c (.int .i32 90))), some (5, true)⟩,
 oQ 8 (.pick (.t 5) (.t 7) (.c (.bool false))),
 oQ 2 (.mov (.t 8))])
 .ret))
def c55 : CF := ⟨9, 1, [.mov (.t 2)], b55⟩
def b56 : C :=
 (.seq
 (.region false [
 oQ 2 (.mov (.c (.bool false)))])
 (.seq
 (.region false [
 oQ 3 (.mov (.t 0)),
 oQ 4 (.bin 0 .geq (.t 3) (.c (.int .i32 97))),
 oQ 5 (.mov (.t 4)),
 ⟨some 6, .op (.mov (.t 0)), some (5, true)⟩,
 ⟨some 7, .op (.bin 0 .leq (.t 6) (.c (.int .i32 122))), some (5, true)⟩,
 oQ 8 (.pick (.t 5) (.t 7) (.c (.bool false))),
 oQ 2 (.mov (.t 8))])
 .ret))
def c56 : CF := ⟨9, 1, [.mov (.t 2)], b56⟩
def b57 : C :=
 (.seq
 (.region false [
 oQ 2 (.mov (.c (.bool false)))])
 (.seq
 (.region false [
 oQ 3 (.mov (.t 0)),
 ⟨some 4, .call false (.c (.fn 58 [] [])) [.c (.str [43, 45, 195, 151, 195, 183, 226, 140, 136, 226, 140, 138, 124, 42, 33, 126, 60, 226, 137, 164, 61, 226, 137, 165, 62, 226, 137, 160, 226, 136, 167, 226, 136, 168, 226, 141, 178, 226, 141, 177, 226, 141, 180, 44, 226, 141, 170, 226, 134, 145, 226, 134, 147, 226, 140, 189, 226, 138, 150, 226, 141, 137, 47, 226, 140, 191, 92, 226, 141, 128, 226, 141, 179, 226, 136, 138, 226, 141, 139, 226, 141, 146, 226, 136, 170, 226, 138, 130, 226, 138, 131, 226, 137, 161, 226, 137, 162, 226, 138, 164, 226, 138, 165, 226, 140, 183, 226, 141, 142, 226, 141, 149, 194, 168, 226, 136, 152, 46, 226, 141, 168]), .t 3], none⟩,
 oQ 2 (.mov (.t 4))])
 .ret))
def c57 : CF := ⟨5, 1, [.mov (.t 2)], b57⟩
def b58 : C :=
 (.seq
 (.region false [
 oQ 4 (.mov (.c (.bool false)))])
 (.seq
 (.seq
 (.region false [
 oQ 7 (.mov (.t 0)),
 oQ 8 (.range (.t 7))])
 (.block 0
 (.loop
 (.seq
 (.region false [
 oQ 9 (.next (.t 8)),
 oQ 10 (.extract (.t 9) 0)])
 (.seq
 (.cond (.t 10)
 .skip
 (.exit 0))
 (.block 1
 (.seq
 (.region false [
 oQ 11 (.extract (.t 9) 2),
 oQ 6 (.mov (.t 11))])
 (.seq
 (.region false [
 oQ 12 (.mov (.t 6)),
 oQ 13 (.mov (.t 1)),
 oQ 14 (.bin 0 .eql (.t 12) (.t 13))])
 (.cond (.t 14)
 (.seq
 (.region false [
 oQ 4 (.mov (.c (.bool true)))])
 .ret)
 .skip)))))))))
 (.seq
 (.region false [
 oQ 4 (.mov (.c (.bool false)))])
 .ret)))
def c58 : CF := ⟨15, 2, [.mov (.t 4)], b58⟩
def b47 : C :=
 (.seq
 (.region false [
 oQ 2 (.mov (.c (.bool false)))])
 (.seq
 (.region false [
 oQ 3 (.mov (.t 0)),
 ⟨some 4, .call false (.c (.fn 46 [] [])) [.t 3], none⟩,
 oQ 5 (.mov (.t 4)),
 ⟨some 6, .op (.mov (.t 0)), some (5, false)⟩,
 ⟨some 7, .op (.bin 0 .eql (.t 6) (.c (.int .i32 46))), some (5, false)⟩,
 oQ 8 (.pick (.t 5) (.c (.bool true)) (.t 7)),
 oQ 9 (.mov (.t 8)),
 ⟨some 10, .op (.mov (.t 0)), some (9, false)⟩,
 ⟨some 11, .op (.bin 0 .eql (.t 10) (.c (.int .i32 114))), some (9, false)⟩,
 oQ 12 (.pick (.t 9) (.c (.bool true)) (.t 11)),
 oQ 2 (.mov (.t 12))])
 .ret))
def c47 : CF := ⟨13, 1, [.mov (.t 2)], b47⟩
def b53 : C :=
 (.seq
 (.region false [
 oQ 2 (.mov (.c (.bool false)))])
 (.seq
 (.region false [
 oQ 3 (.mov (.t 0)),
 ⟨some 4, .call false (.c (.fn 52 [] [])) [.t 3], none⟩,
 oQ 5 (.mov (.t 4)),
 ⟨some 6, .op (.mov (.t 0)), some (5, false)⟩,
 ⟨some 7, .call false (.c (.fn 46 [] [])) [.t 6], some (5, false)⟩,
 oQ 8 (.pick (.t 5) (.c (.bool true)) (.t 7)),
 oQ 2 (.mov (.t 8))])
 .ret))
def c53 : CF := ⟨9, 1, [.mov (.t 2)], b53⟩
def b54 : C :=
 (.seq
 (.region false [
 oQ 2 (.mov (.c (.bool false)))])
 (.seq
 (.region false [
 oQ 3 (.mov (.t 0)),
 ⟨some 4, .call false (.c (.fn 55 [] [])) [.t 3], none⟩,
 oQ 5 (.mov (.t 4)),
 ⟨some 6, .op (.mov (.t 0)), some (5, false)⟩,
 ⟨some 7, .call false (.c (.fn 56 [] [])) [.t 6], some (5, false)⟩,
 oQ 8 (.pick (.t 5) (.c (.bool true)) (.t 7)),
 oQ 2 (.mov (.t 8))])
 .ret))
def c54 : CF := ⟨9, 1, [.mov (.t 2)], b54⟩
def b29 : C :=
 (.seq
 (.region false [
 oQ 2 (.mov (.c (.bool false)))])
 (.seq
 (.region false [
 oQ 3 (.mov (.t 0)),
 oQ 4 (.bin 0 .eql (.t 3) (.c (.int .i32 32))),
 oQ 5 (.mov (.t 4)),
 ⟨some 6, .op (.mov (.t 0)), some (5, false)⟩,
 ⟨some 7, .op (.bin 0 .eql (.t 6) (.c (.int .i32 9))), some (5, false)⟩,
 oQ 8 (.pick (.t 5) (.c (.bool true)) (.t 7)),
 oQ 2 (.mov (.t 8))])
 .ret))
def c29 : CF := ⟨9, 1, [.mov (.t 2)], b29⟩
def b28 : C :=
 (.block 0
 (.loop
 (.seq
 (.seq
 (.region true [
 oQ 4 (.mov (.t 0)),
 oQ 5 (.nilck (.t 4)),
 oQ 6 (.faddr 1 (.t 5)),
 oQ 7 (.load false 1 (.t 6)),
 oQ 8 (.mov (.t 0)),
 oQ 9 (.nilck (.t 8)),
 oQ 10 (.faddr 0 (.t 9)),
 oQ 11 (.load false 1 (.t 10)),
 oQ 12 (.len false (.t 11)),
 oQ 13 (.bin 0 .lss (.t 7) (.t 12)),
 oQ 14 (.mov (.t 13)),
 ⟨some 15, .op (.mov (.t 1)), some (14, true)⟩,
 ⟨some 16, .op (.mov (.t 0)), some (14, true)⟩,
 ⟨some 17, .op (.nilck (.t 16)), some (14, true)⟩,
 ⟨some 18, .op (.faddr 0 (.t 17)), some (14, true)⟩,
 ⟨some 19, .op (.load false 1 (.t 18)), some (14, true)⟩,
 ⟨some 20, .op (.mov (.t 0)), some (14, true)⟩,
 ⟨some 21, .op (.nilck (.t 20)), some (14, true)⟩,
 ⟨some 22, .op (.faddr 1 (.t 21)), some (14, true)⟩,
 ⟨some 23, .op (.load false 1 (.t 22)), some (14, true)⟩,
 ⟨some 24, .op (.iaddr 1 (.t 19) (.t 23)), some (14, true)⟩,
 ⟨some 25, .op (.load false 1 (.t 24)), some (14, true)⟩,
 ⟨some 26, .call false (.t 15) [.t 25], some (14, true)⟩,
 oQ 27 (.pick (.t 14) (.t 26) (.c (.bool false)))])
 (.cond (.t 27)
 .skip
 (.exit 0)))
 (.block 1
 (.region false [
 oQ 28 (.mov (.t 0)),
 oQ 29 (.nilck (.t 28)),
 oQ 30 (.faddr 1 (.t 29)),
 oQ 31 (.load false 1 (.t 30)),
 oQ 32 (.bin 0 .add (.t 31) (.c (.int .i64 1))),
 oQ 33 (.nilck (.t 28)),
 oQ 34 (.faddr 1 (.t 33)),
 ⟨none, .op (.store 1 (.t 34) (.t 32)), none⟩])))))
def c28 : CF := ⟨35, 2, [], b28⟩
def b26 : C :=
 (.seq
 (.region false [
 oQ 4 (.mov (.c (.bool false)))])
 (.seq
 (.region false [
 oQ 5 (.mov (.t 0)),
 oQ 6 (.mov (.t 1)),
 ⟨some 7, .call false (.c (.fn 45 [] [])) [.t 5, .t 6], none⟩,
 oQ 4 (.mov (.t 7))])
 .ret))
def c26 : CF := ⟨8, 2, [.mov (.t 4)], b26⟩
def b45 : C :=
 (.seq
 (.region false [
 oQ 4 (.mov (.c (.bool false)))])
 (.seq
 (.region false [
 oQ 5 (.mov (.t 0)),
 oQ 6 (.len true (.t 5)),
 oQ 7 (.mov (.t 1)),
 oQ 8 (.len true (.t 7)),
 oQ 9 (.bin 0 .geq (.t 6) (.t 8)),
 oQ 10 (.mov (.t 9)),
 ⟨some 11, .op (.mov (.t 0)), some (10, true)⟩,
 ⟨some 12, .op (.mov (.t 1)), some (10, true)⟩,
 ⟨some 13, .op (.len true (.t 12)), some (10, true)⟩,
 ⟨some 14, .op (.slstr (.t 11) none (some (.t 13))), some (10, true)⟩,
 ⟨some 15, .op (.mov (.t 1)), some (10, true)⟩,
 ⟨some 16, .op (.bin 0 .eql (.t 14) (.t 15)), some (10, true)⟩,
 oQ 17 (.pick (.t 10) (.t 16) (.c (.bool false))),
 oQ 4 (.mov (.t 17))])
 .ret))
def c45 : CF := ⟨18, 2, [.mov (.t 4)], b45⟩
def b13 : C :=
 (.seq
 (.region false [
 oQ 2 (.mov (.c (.sl true [] 0))),
 oQ 3 (.mov (.c (.int .i64 0))),
 oQ 4 (.mov (.c (.int .i64 0)))])
 (.seq
 (.region false [
 oQ 5 (.mov (.c (.sl true [] 0)))])
 (.seq
 (.seq
 (.region false [
 oQ 8 (.mov (.t 0)),
 oQ 9 (.range (.t 8))])
 (.block 0
 (.loop
 (.seq
 (.region false [
 oQ 10 (.next (.t 9)),
 oQ 11 (.extract (.t 10) 0)])
 (.seq
 (.cond (.t 11)
 .skip
 (.exit 0))
 (.block 1
 (.seq
 (.region false [
 oQ 12 (.extract (.t 10) 1),
 oQ 13 (.extract (.t 10) 2),
 oQ 6 (.mov (.t 12)),
 oQ 7 (.mov (.t 13))])
 (.seq
 (.seq
 (.region false [
 oQ 14 (.mov (.t 7)),
 oQ 15 (.bin 0 .eql (.t 14) (.c (.int .i32 65533))),
 oQ 16 (.mov (.t 15)),
 ⟨some 17, .op (.mov (.t 0)), some (16, true)⟩,
 ⟨some 18, .op (.mov (.t 6)), some (16, true)⟩,
 ⟨some 19, .op (.slstr (.t 17) (some (.t 18)) none), some (16, true)⟩,
 ⟨some 20, .call false (.c (.fn 26 [] [])) [.t 19, .c (.str [239, 191, 189])], some (16, true)⟩,
 ⟨some 21, .op (.un .not (.t 20)), some (16, true)⟩,
 oQ 22 (.pick (.t 16) (.t 21) (.c (.bool false)))])
 (.cond (.t 22)
 (.seq
 (.region false [
 oQ 23 (.mov (.t 5)),
 oQ 24 (.len false (.t 23)),
 oQ 2 (.mov (.c (.sl true [] 0))),
 oQ 3 (.mov (.c (.int .i64 26))),
 oQ 4 (.mov (.t 24))])
 .ret)
 .skip))
 (.region false [
 oQ 25 (.mov (.t 5)),
 oQ 26 (.mov (.t 7)),
 oQ 27 (.mksl [.int .i32 0] 1 [(0, (1, .t 26))]),
 oQ 28 (.append 1 4 (.t 25) (.t 27)),
 oQ 5 (.mov (.t 28))])))))))))
 (.seq
 (.region false [
 oQ 29 (.mov (.t 5)),
 oQ 2 (.mov (.t 29)),
 oQ 3 (.mov (.c (.int .i64 0))),
 oQ 4 (.mov (.c (.int .i64 0)))])
 .ret))))
def c13 : CF := ⟨30, 1, [.mov (.t 2), .mov (.t 3), .mov (.t 4)], b13⟩
theorem s46 : stripF Go.Proofs.Try.prog 46 = some c46 := by kernel_rfl
theorem s52 : stripF Go.Proofs.Try.prog 52 = some c52 := by kernel_rfl
theorem s55 : stripF Go.Proofs.Try.prog 55 = some c55 := by kernel_rfl
theorem s56 : stripF Go.Proofs.Try.prog 56 = some c56 := by kernel_rfl
theorem s57 : stripF Go.Proofs.Try.prog 57 = some c57 := by kernel_rfl
theorem s58 : stripF Go.Proofs.Try.prog 58 = some c58 := by kernel_rfl
theorem s47 : stripF Go.Proofs.Try.prog 47 = some c47 := by kernel_rfl
theorem s53 : stripF Go.Proofs.Try.prog 53 = some c53 := by kernel_rfl
theorem s54 : stripF Go.Proofs.Try.prog 54 = some c54 := by kernel_rfl
theorem s29 : stripF Go.Proofs.Try.prog 29 = some c29 := by kernel_rfl
theorem s28 : stripF Go.Proofs.Try.prog 28 = some c28 := by kernel_rfl
theorem s26 : stripF Go.Proofs.Try.prog 26 = some c26 := by kernel_rfl
theorem s45 : stripF Go.Proofs.Try.prog 45 = some c45 := by kernel_rfl
theorem s13 : stripF Go.Proofs.Try.prog 13 = some c13 := by kernel_rfl

/-! ### Kinds of characters -/
def isD (c : Nat) : Bool := decide (48 ≤ c ∧ c ≤ 57)
def isCap (c : Nat) : Bool := decide (65 ≤ c ∧ c ≤ 90)
def isSm (c : Nat) : Bool := decide (97 ≤ c ∧ c ≤ 122)
def isL (c : Nat) : Bool := isCap c || isSm c || decide (c = 95) || decide (c = 8710)
def numC (c : Nat) : Bool := isD c || decide (c = 46) || decide (c = 114)
def nameC (c : Nat) : Bool := isL c || isD c
def quadC (c : Nat) : Bool := isCap c || isSm c
def blankC (c : Nat) : Bool := decide (c = 32) || decide (c = 9)

theorem good46 (c : Nat) : Good Go.Proofs.Try.prog 46 [.int .i32 c] (.bool (isD c)) := by
  refine good_go mix s46 (Nat.le_of_ble_eq_true rfl) fun e he => ?_
  have e0 : e 0 = .int .i32 c := he 0
  clear he
  simp only [c46,b46, oQ]
  by_cases h1 : 48 ≤ c <;> by_cases h2 : c ≤ 57 <;> first | (exfalso; omega) | (simp -implicitDefEqProofs (disch := omega) only [↓ZD,ZP,cnd_t,cnd_f,↓reduceIte,Env.put,stepO,lenV,binV,binInt,unV,loadV,sliceV,boundOf,convV,slstrV,if_pos,if_neg,Int.reduceToNat,Nat.reducePow,V.cells,V.isCell,V.boxable,Nat.reduceEqDiff,reduceCtorEq,reduceIte,ite_self,enterEnv,e0]; exact gives_eq rfl (by simp [isD, h1, h2, V.weak]))

theorem good55 (c : Nat) : Good Go.Proofs.Try.prog 55 [.int .i32 c] (.bool (isCap c)) := by
  refine good_go mix s55 (Nat.le_of_ble_eq_true rfl) fun e he => ?_
  have e0 : e 0 = .int .i32 c := he 0
  clear he
  simp only [c55,b55, oQ]
  by_cases h1 : 65 ≤ c <;> by_cases h2 : c ≤ 90 <;> first | (exfalso; omega) | (simp -implicitDefEqProofs (disch := omega) only [↓ZD,ZP,cnd_t,cnd_f,↓reduceIte,Env.put,stepO,lenV,binV,binInt,unV,loadV,sliceV,boundOf,convV,slstrV,if_pos,if_neg,Int.reduceToNat,Nat.reducePow,V.cells,V.isCell,V.boxable,Nat.reduceEqDiff,reduceCtorEq,reduceIte,ite_self,enterEnv,e0]; exact gives_eq rfl (by simp [isCap, h1, h2, V.weak]))

theorem good56 (c : Nat) : Good Go.Proofs.Try.prog 56 [.int .i32 c] (.bool (isSm c)) := by
  refine good_go mix s56 (Nat.le_of_ble_eq_true rfl) fun e he => ?_
  have e0 : e 0 = .int .i32 c := he 0
  clear he
  simp only [c56,b56, oQ]
  by_cases h1 : 97 ≤ c <;> by_cases h2 : c ≤ 122 <;> first | (exfalso; omega) | (simp -implicitDefEqProofs (disch := omega) only [↓ZD,ZP,cnd_t,cnd_f,↓reduceIte,Env.put,stepO,lenV,binV,binInt,unV,loadV,sliceV,boundOf,convV,slstrV,if_pos,if_neg,Int.reduceToNat,Nat.reducePow,V.cells,V.isCell,V.boxable,Nat.reduceEqDiff,reduceCtorEq,reduceIte,ite_self,enterEnv,e0]; exact gives_eq rfl (by simp [isSm, h1, h2, V.weak]))

theorem good29 (c : Nat) : Good Go.Proofs.Try.prog 29 [.int .i32 c] (.bool (blankC c)) := by
  refine good_go mix s29 (Nat.le_of_ble_eq_true rfl) fun e he => ?_
  have e0 : e 0 = .int .i32 c := he 0
  clear he
  simp only [c29,b29, oQ]
  by_cases h1 : c = 32 <;> by_cases h2 : c = 9 <;> first | (exfalso; omega) | (simp -implicitDefEqProofs (disch := omega) only [↓ZD,ZP,cnd_t,cnd_f,↓reduceIte,Env.put,stepO,lenV,binV,binInt,unV,loadV,sliceV,boundOf,convV,slstrV,if_pos,if_neg,Int.reduceToNat,Nat.reducePow,V.cells,V.isCell,V.boxable,Nat.reduceEqDiff,reduceCtorEq,reduceIte,ite_self,enterEnv,e0]; exact gives_eq rfl (by simp [blankC, h1, h2, V.weak]))

theorem good52 (c : Nat) : Good Go.Proofs.Try.prog 52 [.int .i32 c] (.bool (isL c)) := by
  refine good_go mix s52 (Nat.le_of_ble_eq_true rfl) fun e he => ?_
  have e0 : e 0 = .int .i32 c := he 0
  clear he
  simp only [c52,b52, oQ]
  simp -implicitDefEqProofs (disch := omega) only [↓ZD,ZP,cnd_t,cnd_f,↓reduceIte,Env.put,stepO,lenV,binV,binInt,unV,loadV,sliceV,boundOf,convV,slstrV,if_pos,if_neg,Int.reduceToNat,Nat.reducePow,V.cells,V.isCell,V.boxable,Nat.reduceEqDiff,reduceCtorEq,reduceIte,ite_self,enterEnv,e0]
  refine calP_ro rfl (good55 c) rfl ?_
  cases hc : isCap c with
  | true =>
    simp -implicitDefEqProofs (disch := omega) only [↓ZD,ZP,cnd_t,cnd_f,↓reduceIte,Env.put,stepO,lenV,binV,binInt,unV,loadV,sliceV,boundOf,convV,slstrV,if_pos,if_neg,Int.reduceToNat,Nat.reducePow,V.cells,V.isCell,V.boxable,Nat.reduceEqDiff,reduceCtorEq,reduceIte,ite_self,enterEnv,e0]
    exact gives_eq rfl (by simp [isL, hc, V.weak])
  | false =>
    simp -implicitDefEqProofs (disch := omega) only [↓ZD,ZP,cnd_t,cnd_f,↓reduceIte,Env.put,stepO,lenV,binV,binInt,unV,loadV,sliceV,boundOf,convV,slstrV,if_pos,if_neg,Int.reduceToNat,Nat.reducePow,V.cells,V.isCell,V.boxable,Nat.reduceEqDiff,reduceCtorEq,reduceIte,ite_self,enterEnv,e0]
    refine calP_ro rfl (good56 c) rfl ?_
    cases hs : isSm c with
    | true =>
      simp -implicitDefEqProofs (disch := omega) only [↓ZD,ZP,cnd_t,cnd_f,↓reduceIte,Env.put,stepO,lenV,binV,binInt,unV,loadV,sliceV,boundOf,convV,slstrV,if_pos,if_neg,Int.reduceToNat,Nat.reducePow,V.cells,V.isCell,V.boxable,Nat.reduceEqDiff,reduceCtorEq,reduceIte,ite_self,enterEnv,e0]
      exact gives_eq rfl (by simp [isL, hc, hs, V.weak])
    | false =>
      by_cases h1 : c = 95 <;> by_cases h2 : c = 8710 <;> simp -implicitDefEqProofs (disch := omega) only [↓ZD,ZP,cnd_t,cnd_f,↓reduceIte,Env.put,stepO,lenV,binV,binInt,unV,loadV,sliceV,boundOf,convV,slstrV,if_pos,if_neg,Int.reduceToNat,Nat.reducePow,V.cells,V.isCell,V.boxable,Nat.reduceEqDiff,reduceCtorEq,reduceIte,ite_self,enterEnv,e0] <;> exact gives_eq rfl (by simp [isL, hc, hs, h1, h2, V.weak])

theorem good47 (c : Nat) : Good Go.Proofs.Try.prog 47 [.int .i32 c] (.bool (numC c)) := by
  refine good_go mix s47 (Nat.le_of_ble_eq_true rfl) fun e he => ?_
  have e0 : e 0 = .int .i32 c := he 0
  clear he
  simp only [c47,b47, oQ]
  simp -implicitDefEqProofs (disch := omega) only [↓ZD,ZP,cnd_t,cnd_f,↓reduceIte,Env.put,stepO,lenV,binV,binInt,unV,loadV,sliceV,boundOf,convV,slstrV,if_pos,if_neg,Int.reduceToNat,Nat.reducePow,V.cells,V.isCell,V.boxable,Nat.reduceEqDiff,reduceCtorEq,reduceIte,ite_self,enterEnv,e0]
  refine calP_ro rfl (good46 c) rfl ?_
  cases hc : isD c with
  | true =>
    simp -implicitDefEqProofs (disch := omega) only [↓ZD,ZP,cnd_t,cnd_f,↓reduceIte,Env.put,stepO,lenV,binV,binInt,unV,loadV,sliceV,boundOf,convV,slstrV,if_pos,if_neg,Int.reduceToNat,Nat.reducePow,V.cells,V.isCell,V.boxable,Nat.reduceEqDiff,reduceCtorEq,reduceIte,ite_self,enterEnv,e0]
    exact gives_eq rfl (by simp [numC, hc, V.weak])
  | false =>
    by_cases h1 : c = 46 <;> by_cases h2 : c = 114 <;> simp -implicitDefEqProofs (disch := omega) only [↓ZD,ZP,cnd_t,cnd_f,↓reduceIte,Env.put,stepO,lenV,binV,binInt,unV,loadV,sliceV,boundOf,convV,slstrV,if_pos,if_neg,Int.reduceToNat,Nat.reducePow,V.cells,V.isCell,V.boxable,Nat.reduceEqDiff,reduceCtorEq,reduceIte,ite_self,enterEnv,e0] <;> exact gives_eq rfl (by simp [numC, hc, h1, h2, V.weak])

theorem good53 (c : Nat) : Good Go.Proofs.Try.prog 53 [.int .i32 c] (.bool (nameC c)) := by
  refine good_go mix s53 (Nat.le_of_ble_eq_true rfl) fun e he => ?_
  have e0 : e 0 = .int .i32 c := he 0
  clear he
  simp only [c53,b53, oQ]
  simp -implicitDefEqProofs (disch := omega) only [↓ZD,ZP,cnd_t,cnd_f,↓reduceIte,Env.put,stepO,lenV,binV,binInt,unV,loadV,sliceV,boundOf,convV,slstrV,if_pos,if_neg,Int.reduceToNat,Nat.reducePow,V.cells,V.isCell,V.boxable,Nat.reduceEqDiff,reduceCtorEq,reduceIte,ite_self,enterEnv,e0]
  refine calP_ro rfl (good52 c) rfl ?_
  cases hc : isL c with
  | true =>
    simp -implicitDefEqProofs (disch := omega) only [↓ZD,ZP,cnd_t,cnd_f,↓reduceIte,Env.put,stepO,lenV,binV,binInt,unV,loadV,sliceV,boundOf,convV,slstrV,if_pos,if_neg,Int.reduceToNat,Nat.reducePow,V.cells,V.isCell,V.boxable,Nat.reduceEqDiff,reduceCtorEq,reduceIte,ite_self,enterEnv,e0]
    exact gives_eq rfl (by simp [nameC, hc, V.weak])
  | false =>
    simp -implicitDefEqProofs (disch := omega) only [↓ZD,ZP,cnd_t,cnd_f,↓reduceIte,Env.put,stepO,lenV,binV,binInt,unV,loadV,sliceV,boundOf,convV,slstrV,if_pos,if_neg,Int.reduceToNat,Nat.reducePow,V.cells,V.isCell,V.boxable,Nat.reduceEqDiff,reduceCtorEq,reduceIte,ite_self,enterEnv,e0]
    refine calP_ro rfl (good46 c) rfl ?_
    simp -implicitDefEqProofs (disch := omega) only [↓ZD,ZP,cnd_t,cnd_f,↓reduceIte,Env.put,stepO,lenV,binV,binInt,unV,loadV,sliceV,boundOf,convV,slstrV,if_pos,if_neg,Int.reduceToNat,Nat.reducePow,V.cells,V.isCell,V.boxable,Nat.reduceEqDiff,reduceCtorEq,reduceIte,ite_self,enterEnv,e0]
    exact gives_eq rfl (by simp [nameC, hc, V.weak])

theorem good54 (c : Nat) : Good Go.Proofs.Try.prog 54 [.int .i32 c] (.bool (quadC c)) := by
  refine good_go mix s54 (Nat.le_of_ble_eq_true rfl) fun e he => ?_
  have e0 : e 0 = .int .i32 c := he 0
  clear he
  simp only [c54,b54, oQ]
  simp -implicitDefEqProofs (disch := omega) only [↓ZD,ZP,cnd_t,cnd_f,↓reduceIte,Env.put,stepO,lenV,binV,binInt,unV,loadV,sliceV,boundOf,convV,slstrV,if_pos,if_neg,Int.reduceToNat,Nat.reducePow,V.cells,V.isCell,V.boxable,Nat.reduceEqDiff,reduceCtorEq,reduceIte,ite_self,enterEnv,e0]
  refine calP_ro rfl (good55 c) rfl ?_
  cases hc : isCap c with
  | true =>
    simp -implicitDefEqProofs (disch := omega) only [↓ZD,ZP,cnd_t,cnd_f,↓reduceIte,Env.put,stepO,lenV,binV,binInt,unV,loadV,sliceV,boundOf,convV,slstrV,if_pos,if_neg,Int.reduceToNat,Nat.reducePow,V.cells,V.isCell,V.boxable,Nat.reduceEqDiff,reduceCtorEq,reduceIte,ite_self,enterEnv,e0]
    exact gives_eq rfl (by simp [quadC, hc, V.weak])
  | false =>
    simp -implicitDefEqProofs (disch := omega) only [↓ZD,ZP,cnd_t,cnd_f,↓reduceIte,Env.put,stepO,lenV,binV,binInt,unV,loadV,sliceV,boundOf,convV,slstrV,if_pos,if_neg,Int.reduceToNat,Nat.reducePow,V.cells,V.isCell,V.boxable,Nat.reduceEqDiff,reduceCtorEq,reduceIte,ite_self,enterEnv,e0]
    refine calP_ro rfl (good56 c) rfl ?_
    simp -implicitDefEqProofs (disch := omega) only [↓ZD,ZP,cnd_t,cnd_f,↓reduceIte,Env.put,stepO,lenV,binV,binInt,unV,loadV,sliceV,boundOf,convV,slstrV,if_pos,if_neg,Int.reduceToNat,Nat.reducePow,V.cells,V.isCell,V.boxable,Nat.reduceEqDiff,reduceCtorEq,reduceIte,ite_self,enterEnv,e0]
    exact gives_eq rfl (by simp [quadC, hc, V.weak])

theorem good58 (s : List UInt8) (c : Nat) (hs : s.length ≤ 1100000) : Good Go.Proofs.Try.prog 58 [.str s, .int .i32 c] (.bool (decide (c ∈ rn s))) := by
  refine good_go mix s58 (Nat.le_of_ble_eq_true rfl) fun e he => ?_
  have e0 : e 0 = .str s := he 0
  have e1 : e 1 = .int .i32 c := he 1
  clear he
  simp only [c58,b58, oQ]
  simp -implicitDefEqProofs (disch := omega) only [↓ZD,ZP,cnd_t,cnd_f,↓reduceIte,Env.put,stepO,lenV,binV,binInt,unV,loadV,sliceV,boundOf,convV,slstrV,if_pos,if_neg,Int.reduceToNat,Nat.reducePow,V.cells,V.isCell,V.boxable,Nat.reduceEqDiff,reduceCtorEq,reduceIte,ite_self,enterEnv,e0,e1]
  refine go_loop (fun m e H => ∃ pos, H = [.iter s pos] ∧ pos ≤ s.length ∧ m = s.length - pos ∧ (c ∈ rn s ↔ c ∈ rn (s.drop pos)) ∧ e 1 = .int .i32 c ∧ e 8 = .cell 0 0 0)
    s.length ⟨0, rfl, Nat.zero_le _, rfl, by simp, ?_, ?_⟩ ?_
  · simp [Env.set, e1]
  · simp [Env.set]
  rintro m e H ⟨pos, rfl, hpos, rfl, hiff, e1, e8⟩
  rcases Nat.lt_or_ge pos s.length with hlt | hge
  · obtain ⟨d1, d2, d3⟩ := drop_dec hlt
    obtain ⟨x, w, hd⟩ : ∃ x w, decL (s.drop pos) = (x, w) := ⟨_, _, rfl⟩
    simp only [hd] at d1 d2 d3
    rw [d3] at hiff
    by_cases hx : x = c
    · subst hx
      simp -implicitDefEqProofs (disch := omega) only [↓ZD,ZP,cnd_t,cnd_f,↓reduceIte,Env.put,stepO,lenV,binV,binInt,unV,loadV,sliceV,boundOf,convV,slstrV,if_pos,if_neg,Int.reduceToNat,Nat.reducePow,V.cells,V.isCell,V.boxable,Nat.reduceEqDiff,reduceCtorEq,reduceIte,ite_self,enterEnv,e1,e8,hlt,hd]
      exact gives_eq rfl (by simp [V.weak, hiff])
    · simp -implicitDefEqProofs (disch := omega) only [↓ZD,ZP,cnd_t,cnd_f,↓reduceIte,Env.put,stepO,lenV,binV,binInt,unV,loadV,sliceV,boundOf,convV,slstrV,if_pos,if_neg,Int.reduceToNat,Nat.reducePow,V.cells,V.isCell,V.boxable,Nat.reduceEqDiff,reduceCtorEq,reduceIte,ite_self,enterEnv,e1,e8,hlt,hd]
      refine ⟨_, by omega, pos + w, rfl, d2, rfl, ?_⟩
      rw [hiff]
      simp [Ne.symm hx]
  · have hnl : ¬ pos < s.length := by omega
    rw [List.drop_of_length_le hge, rn_nil] at hiff
    simp -implicitDefEqProofs (disch := omega) only [↓ZD,ZP,cnd_t,cnd_f,↓reduceIte,Env.put,stepO,lenV,binV,binInt,unV,loadV,sliceV,boundOf,convV,slstrV,if_pos,if_neg,Int.reduceToNat,Nat.reducePow,V.cells,V.isCell,V.boxable,Nat.reduceEqDiff,reduceCtorEq,reduceIte,ite_self,enterEnv,e1,e8,hnl]
    exact gives_eq rfl (by simp [V.weak, hiff])

def primB : List UInt8 := [43, 45, 195, 151, 195, 183, 226, 140, 136, 226, 140, 138, 124, 42, 33, 126, 60, 226, 137, 164, 61, 226, 137, 165, 62, 226, 137, 160, 226, 136, 167, 226, 136, 168, 226, 141, 178, 226, 141, 177, 226, 141, 180, 44, 226, 141, 170, 226, 134, 145, 226, 134, 147, 226, 140, 189, 226, 138, 150, 226, 141, 137, 47, 226, 140, 191, 92, 226, 141, 128, 226, 141, 179, 226, 136, 138, 226, 141, 139, 226, 141, 146, 226, 136, 170, 226, 138, 130, 226, 138, 131, 226, 137, 161, 226, 137, 162, 226, 138, 164, 226, 138, 165, 226, 140, 183, 226, 141, 142, 226, 141, 149, 194, 168, 226, 136, 152, 46, 226, 141, 168]
def signB : List UInt8 := [40, 41, 91, 93, 59, 123, 125, 226, 134, 144, 226, 134, 146, 226, 139, 132, 58, 226, 136, 135, 226, 141, 186, 226, 141, 181]
def isP (c : Nat) : Bool := decide (c ∈ rn primB)
def isS (c : Nat) : Bool := decide (c ∈ rn signB)

theorem good57 (c : Nat) : Good Go.Proofs.Try.prog 57 [.int .i32 c] (.bool (isP c)) := by
  refine good_go mix s57 (Nat.le_of_ble_eq_true rfl) fun e he => ?_
  have e0 : e 0 = .int .i32 c := he 0
  clear he
  simp only [c57,b57, oQ]
  simp -implicitDefEqProofs (disch := omega) only [↓ZD,ZP,cnd_t,cnd_f,↓reduceIte,Env.put,stepO,lenV,binV,binInt,unV,loadV,sliceV,boundOf,convV,slstrV,if_pos,if_neg,Int.reduceToNat,Nat.reducePow,V.cells,V.isCell,V.boxable,Nat.reduceEqDiff,reduceCtorEq,reduceIte,ite_self,enterEnv,e0]
  refine calP_ro rfl (good58 primB c (by decide)) rfl ?_
  simp -implicitDefEqProofs (disch := omega) only [↓ZD,ZP,cnd_t,cnd_f,↓reduceIte,Env.put,stepO,lenV,binV,binInt,unV,loadV,sliceV,boundOf,convV,slstrV,if_pos,if_neg,Int.reduceToNat,Nat.reducePow,V.cells,V.isCell,V.boxable,Nat.reduceEqDiff,reduceCtorEq,reduceIte,ite_self,enterEnv,e0]
  exact gives_eq rfl rfl

/-! ### The reader -/
def rl (l : List Nat) : List V := l.map fun (c : Nat) => V.int .i32 (c : Int)
def rsl (l : List Nat) : V := .sl false (rl l) l.length
theorem rl_len (l : List Nat) : (rl l).length = l.length := by simp [rl]
theorem rl_ro : ∀ l : List Nat, roL (rl l) = true
  | [] => rfl
  | c :: l => by simp only [rl,List.map_cons,roL,Bool.and_eq_true]; exact ⟨rfl, rl_ro l⟩
theorem rl_get {l : List Nat} {i c : Nat} (h : l[i]? = some c) : (rl l)[i]? = some (.int .i32 c) := by simp [rl, h]

def reader (rs : List Nat) (i : Nat) : HObj := .cells 0 0 true [.sl false (rl rs) rs.length, .int .i64 (i : Nat)]

def spanTo (p : Nat → Bool) (rs : List Nat) (i : Nat) : Nat := i + ((rs.drop i).takeWhile p).length

theorem spanTo_stop {p : Nat → Bool} {rs : List Nat} {i : Nat} (h : rs.length ≤ i) : spanTo p rs i = i := by
  rw [spanTo, List.drop_of_length_le h]; rfl
theorem spanTo_no {p : Nat → Bool} {rs : List Nat} {i c : Nat} (h : rs[i]? = some c) (hp : p c = false) : spanTo p rs i = i := by
  have hlt : i < rs.length := by
    rcases Nat.lt_or_ge i rs.length with h1 | h1
    · exact h1
    · simp [List.getElem?_eq_none h1] at h
  rw [spanTo, List.drop_eq_getElem_cons hlt]
  have : rs[i] = c := by rw [List.getElem?_eq_getElem hlt] at h; exact Option.some.inj h
  rw [this, List.takeWhile_cons, hp]
  rfl
theorem spanTo_yes {p : Nat → Bool} {rs : List Nat} {i c : Nat} (h : rs[i]? = some c) (hp : p c = true) : spanTo p rs i = spanTo p rs (i + 1) := by
  have hlt : i < rs.length := by
    rcases Nat.lt_or_ge i rs.length with h1 | h1
    · exact h1
    · simp [List.getElem?_eq_none h1] at h
  have hc : rs[i] = c := by rw [List.getElem?_eq_getElem hlt] at h; exact Option.some.inj h
  rw [spanTo, List.drop_eq_getElem_cons hlt, hc, List.takeWhile_cons, hp, spanTo]
  simp only [if_true,List.length_cons]
  omega
theorem spanTo_le {p : Nat → Bool} {rs : List Nat} {i : Nat} (h : i ≤ rs.length) : i ≤ spanTo p rs i ∧ spanTo p rs i ≤ rs.length := by
  have h1 := List.takeWhile_prefix p (l := rs.drop i)
  have h2 := h1.length_le
  rw [List.length_drop] at h2
  unfold spanTo
  omega

theorem set_same {H : Heap} {k : Nat} {x : HObj} (h : H[k]? = some x) : H.set k x = H := by
  apply List.ext_getElem?
  intro j
  by_cases hj : j = k
  · subst hj; rw [get_set_self (getElem?_lt h), h]
  · rw [get_set_ne hj]

theorem call28 (H : Heap) (k i f : Nat) (p : Nat → Bool) (rs : List Nat) (K : V → Heap → Prop) (hk : H[k]? = some (reader rs i)) (hi : i ≤ rs.length) (hl : rs.length ≤ 1100000) (hp : ∀ c : Nat, Good Go.Proofs.Try.prog f [.int .i32 c] (.bool (p c)))
    (hK : K (.tup []) (H.set k (reader rs (spanTo p rs i)))) : Call2 Go.Proofs.Try.prog 28 [.cell k 0 0, .fn f [] []] H K := by
  have hkl := getElem?_lt hk
  refine call2_go mix s28 (Nat.le_of_ble_eq_true rfl) fun e he => ?_
  have e0 : e 0 = .cell k 0 0 := he 0
  have e1 : e 1 = .fn f [] [] := he 1
  clear he
  simp only [c28,b28, oQ]
  simp -implicitDefEqProofs (disch := omega) only [↓ZD,ZP,cnd_t,cnd_f,↓reduceIte,Env.put,stepO,lenV,binV,binInt,unV,loadV,sliceV,boundOf,convV,slstrV,if_pos,if_neg,Int.reduceToNat,Nat.reducePow,V.cells,V.isCell,V.boxable,Nat.reduceEqDiff,reduceCtorEq,reduceIte,ite_self,enterEnv]
  refine go_loop (fun m e H' => ∃ j, i ≤ j ∧ j ≤ rs.length ∧ m = rs.length - j ∧ H' = H.set k (reader rs j) ∧ spanTo p rs j = spanTo p rs i ∧ e 0 = .cell k 0 0 ∧ e 1 = .fn f [] [])
    (rs.length - i) ⟨i, Nat.le_refl _, hi, rfl, ?_, rfl, e0, e1⟩ ?_
  · exact (set_same hk).symm
  rintro m e H' ⟨j, hij, hj, rfl, rfl, hsp, e0, e1⟩
  have hg : (H.set k (reader rs j))[k]? = some (.cells 0 0 true [.sl false (rl rs) rs.length, .int .i64 (j : Nat)]) := get_set_self hkl
  rcases Nat.lt_or_ge j rs.length with hlt | hge
  · have hat : rs[j]? = some rs[j] := List.getElem?_eq_getElem hlt
    have hat2 := rl_get hat
    generalize rs[j] = c at *
    simp -implicitDefEqProofs (disch := omega) only [↓ZD,ZP,ZL,cnd_t,cnd_f,↓reduceIte,Env.put,stepO,lenV,binV,binInt,unV,loadV,sliceV,boundOf,convV,slstrV,if_pos,if_neg,Int.reduceToNat,Nat.reducePow,V.cells,V.isCell,V.boxable,Nat.reduceEqDiff,reduceCtorEq,reduceIte,ite_self,enterEnv,e0,e1,hg,hkl,hat2]
    refine calP_ro rfl (hp c) rfl ?_
    cases hc : p c with
    | false =>
      rw [spanTo_no hat hc] at hsp
      simp -implicitDefEqProofs (disch := omega) only [↓ZD,ZP,ZL,cnd_t,cnd_f,↓reduceIte,Env.put,stepO,lenV,binV,binInt,unV,loadV,sliceV,boundOf,convV,slstrV,if_pos,if_neg,Int.reduceToNat,Nat.reducePow,V.cells,V.isCell,V.boxable,Nat.reduceEqDiff,reduceCtorEq,reduceIte,ite_self,enterEnv,e0,e1,hg,hkl,hat2]
      rw [hsp]
      exact hK
    | true =>
      rw [spanTo_yes hat hc] at hsp
      simp -implicitDefEqProofs (disch := omega) only [↓ZD,ZP,ZL,cnd_t,cnd_f,↓reduceIte,Env.put,stepO,lenV,binV,binInt,unV,loadV,sliceV,boundOf,convV,slstrV,if_pos,if_neg,Int.reduceToNat,Nat.reducePow,V.cells,V.isCell,V.boxable,Nat.reduceEqDiff,reduceCtorEq,reduceIte,ite_self,enterEnv,e0,e1,hg,hkl,hat2,fillL,evParts,splice,List.take_zero,List.take_succ_cons,List.drop_succ_cons,List.drop_zero,List.drop_nil,List.set_set]
      exact ⟨_, by omega, j + 1, by omega, by omega, rfl, rfl, hsp⟩
  · have hjl : j = rs.length := by omega
    rw [spanTo_stop hge] at hsp
    simp -implicitDefEqProofs (disch := omega) only [↓ZD,ZP,ZL,cnd_t,cnd_f,↓reduceIte,Env.put,stepO,lenV,binV,binInt,unV,loadV,sliceV,boundOf,convV,slstrV,if_pos,if_neg,Int.reduceToNat,Nat.reducePow,V.cells,V.isCell,V.boxable,Nat.reduceEqDiff,reduceCtorEq,reduceIte,ite_self,enterEnv,e0,e1,hg,hkl]
    rw [hsp]
    exact hK

/-! ### The characters of a line -/
def hasPre (s p : List UInt8) : Bool := decide (p.length ≤ s.length) && (s.take p.length == p)
theorem good45 (s p : List UInt8) (hs : s.length ≤ 1100000) (hp : p.length ≤ 1100000) : Good Go.Proofs.Try.prog 45 [.str s, .str p] (.bool (hasPre s p)) := by
  refine good_go mix s45 (Nat.le_of_ble_eq_true rfl) fun e he => ?_
  have e0 : e 0 = .str s := he 0
  have e1 : e 1 = .str p := he 1
  clear he
  simp only [c45,b45, oQ]
  by_cases h : p.length ≤ s.length
  · simp -implicitDefEqProofs (disch := omega) only [↓ZD,ZP,cnd_t,cnd_f,↓reduceIte,Env.put,stepO,lenV,binV,binInt,unV,loadV,sliceV,boundOf,convV,slstrV,if_pos,if_neg,Int.reduceToNat,Nat.reducePow,V.cells,V.isCell,V.boxable,Nat.reduceEqDiff,reduceCtorEq,reduceIte,ite_self,enterEnv,e0,e1,binStr,List.drop_zero]
    refine gives_eq rfl ?_
    simp only [V.weak,hasPre,h,decide_true,Bool.true_and]
    congr 3
  · simp -implicitDefEqProofs (disch := omega) only [↓ZD,ZP,cnd_t,cnd_f,↓reduceIte,Env.put,stepO,lenV,binV,binInt,unV,loadV,sliceV,boundOf,convV,slstrV,if_pos,if_neg,Int.reduceToNat,Nat.reducePow,V.cells,V.isCell,V.boxable,Nat.reduceEqDiff,reduceCtorEq,reduceIte,ite_self,enterEnv,e0,e1,binStr]
    exact gives_eq rfl (by simp [V.weak, hasPre, h])
theorem good26 (s p : List UInt8) (hs : s.length ≤ 1100000) (hp : p.length ≤ 1100000) : Good Go.Proofs.Try.prog 26 [.str s, .str p] (.bool (hasPre s p)) := by
  refine good_go mix s26 (Nat.le_of_ble_eq_true rfl) fun e he => ?_
  have e0 : e 0 = .str s := he 0
  have e1 : e 1 = .str p := he 1
  clear he
  simp only [c26,b26, oQ]
  simp -implicitDefEqProofs (disch := omega) only [↓ZD,ZP,cnd_t,cnd_f,↓reduceIte,Env.put,stepO,lenV,binV,binInt,unV,loadV,sliceV,boundOf,convV,slstrV,if_pos,if_neg,Int.reduceToNat,Nat.reducePow,V.cells,V.isCell,V.boxable,Nat.reduceEqDiff,reduceCtorEq,reduceIte,ite_self,enterEnv,e0,e1]
  refine calP_ro rfl (good45 s p hs hp) rfl ?_
  simp -implicitDefEqProofs (disch := omega) only [↓ZD,ZP,cnd_t,cnd_f,↓reduceIte,Env.put,stepO,lenV,binV,binInt,unV,loadV,sliceV,boundOf,convV,slstrV,if_pos,if_neg,Int.reduceToNat,Nat.reducePow,V.cells,V.isCell,V.boxable,Nat.reduceEqDiff,reduceCtorEq,reduceIte,ite_self,enterEnv,e0,e1]
  exact gives_eq rfl rfl

/-- Where the first bytes stand that are no character. -/
def badL : Nat → List UInt8 → Option Nat
  | 0, _ => none
  | n + 1, s => match s with
    | [] => none
    | c :: r => if (decL (c :: r)).1 = 65533 ∧ hasPre (c :: r) [239, 191, 189] = false then some 0 else (badL n ((c :: r).drop (decL (c :: r)).2)).map (· + 1)
theorem badL_fuel : ∀ (n m : Nat) (s : List UInt8), s.length ≤ n → s.length ≤ m → badL n s = badL m s
  | 0, 0, s, _, _ => rfl
  | 0, m + 1, s, h, _ => by
    obtain rfl := List.length_eq_zero_iff.1 (Nat.le_zero.1 h); rfl
  | n + 1, 0, s, _, h => by
    obtain rfl := List.length_eq_zero_iff.1 (Nat.le_zero.1 h); rfl
  | n + 1, m + 1, [], _, _ => rfl
  | n + 1, m + 1, c :: r, h1, h2 => by
    simp only [badL]
    have hw := decL_w (s := c :: r) (by simp)
    have : ((c :: r).drop (decL (c :: r)).2).length ≤ r.length := by
      rw [List.length_drop]; simp only [List.length_cons]; omega
    rw [badL_fuel n m _ (by simp at h1; omega) (by simp at h2; omega)]
def bad (s : List UInt8) : Option Nat := badL s.length s
theorem bad_cons {s : List UInt8} (h : s ≠ []) : bad s = if (decL s).1 = 65533 ∧ hasPre s [239, 191, 189] = false then some 0 else (bad (s.drop (decL s).2)).map (· + 1) := by
  cases s with
  | nil => exact absurd rfl h
  | cons c r =>
    have hw := decL_w h
    have : ((c :: r).drop (decL (c :: r)).2).length ≤ r.length := by
      rw [List.length_drop]; simp only [List.length_cons]; omega
    rw [bad, List.length_cons, badL, bad]
    rw [badL_fuel r.length _ _ this (Nat.le_refl _)]

/-- A growing list of characters, in memory. -/
def OutAt (H : Heap) (v : V) (l : List Nat) (b : Nat) : Prop := (l = [] ∧ v = .sl true [] 0 ∧ H.length = b) ∨ ∃ g, v = .view b g 0 l.length ∧ H[b]? = some (.cells g 1 true (rl l)) ∧ H.length = b + 1

def runesR (s : List UInt8) : V := match bad s with
  | some i => .tup [rsl [], .int .i64 26, .int .i64 (i : Nat)]
  | none => .tup [rsl (rn s), .int .i64 0, .int .i64 0]

theorem rl_app (a b : List Nat) : rl (a ++ b) = rl a ++ rl b := by simp [rl]

theorem good13 (s : List UInt8) (hs : s.length ≤ 1100000) : Good Go.Proofs.Try.prog 13 [.str s] (runesR s) := by
  refine good_go mix s13 (Nat.le_of_ble_eq_true rfl) fun e he => ?_
  have e0 : e 0 = .str s := he 0
  clear he
  simp only [c13,b13, oQ]
  simp -implicitDefEqProofs (disch := omega) only [↓ZD,ZP,cnd_t,cnd_f,↓reduceIte,Env.put,stepO,lenV,binV,binInt,unV,loadV,sliceV,boundOf,convV,slstrV,if_pos,if_neg,Int.reduceToNat,Nat.reducePow,V.cells,V.isCell,V.boxable,Nat.reduceEqDiff,reduceCtorEq,reduceIte,ite_self,enterEnv,e0]
  refine go_loop (fun m e H => ∃ pos out v H1, H = .iter s pos :: H1 ∧ OutAt H v out 1 ∧ pos ≤ s.length ∧ m = s.length - pos ∧ rn s = out ++ rn (s.drop pos) ∧ bad s = (bad (s.drop pos)).map (· + out.length) ∧ e 0 = .str s ∧ e 5 = v ∧ e 9 = .cell 0 0 0)
    s.length ⟨0, [], .sl true [] 0, [], rfl, .inl ⟨rfl, rfl, rfl⟩, Nat.zero_le _, rfl, by simp, by simp, ?_, ?_, ?_⟩ ?_
  · simp [Env.set, e0]
  · simp [Env.set]
  · simp [Env.set]
  rintro m e H ⟨pos, out, v, H1, rfl, hout, hpos, rfl, hrn, hbad, e0, e5, e9⟩
  have hol : out.length ≤ 1100000 := by
    have h1 := rn_len s
    rw [hrn, List.length_append] at h1
    omega
  rcases Nat.lt_or_ge pos s.length with hlt | hge
  · obtain ⟨d1, d2, d3⟩ := drop_dec hlt
    have hbc := bad_cons (drop_ne hlt)
    have hdl : (s.drop pos).length = s.length - pos := List.length_drop
    obtain ⟨x, w, hd⟩ : ∃ x w, decL (s.drop pos) = (x, w) := ⟨_, _, rfl⟩
    simp only [hd] at d1 d2 d3 hbc
    rw [List.drop_drop] at hbc
    rw [d3] at hrn
    have hp := good26 (s.drop pos) [239, 191, 189] (by omega) (by decide)
    have htk : (s.drop pos).take (s.length - pos) = s.drop pos := by rw [← hdl, List.take_length]
    have hsub : ((s.length : Int) - (pos : Int)) = ((s.length - pos : Nat) : Int) := by omega
    have hnext : rn s = (out ++ [x]) ++ rn (s.drop (pos + w)) := by rw [hrn]; simp
    by_cases hx : x = 65533
    · cases hpre : hasPre (s.drop pos) [239, 191, 189] with
      | false =>
        rw [if_pos ⟨hx, hpre⟩] at hbc
        rw [hbc] at hbad
        rw [hpre] at hp
        have hb0 : bad s = some out.length := by rw [hbad]; simp
        rw [runesR, hb0]
        rcases hout with ⟨rfl, rfl, h3⟩ | ⟨g, rfl, h3, h4⟩
        · simp -implicitDefEqProofs (disch := omega) only [↓ZD,ZP,cnd_t,cnd_f,↓reduceIte,Env.put,stepO,lenV,binV,binInt,unV,loadV,sliceV,boundOf,convV,slstrV,if_pos,if_neg,Int.reduceToNat,Nat.reducePow,V.cells,V.isCell,V.boxable,Nat.reduceEqDiff,reduceCtorEq,reduceIte,ite_self,enterEnv,e0,e5,e9,hlt,hd,hsub,htk]
          refine calP_ro rfl hp rfl ?_
          simp -implicitDefEqProofs (disch := omega) only [↓ZD,ZP,cnd_t,cnd_f,↓reduceIte,Env.put,stepO,lenV,binV,binInt,unV,loadV,sliceV,boundOf,convV,slstrV,if_pos,if_neg,Int.reduceToNat,Nat.reducePow,V.cells,V.isCell,V.boxable,Nat.reduceEqDiff,reduceCtorEq,reduceIte,ite_self,enterEnv,e0,e5,e9,hlt,hd]
          exact gives_eq rfl rfl
        · simp -implicitDefEqProofs (disch := omega) only [↓ZD,ZP,cnd_t,cnd_f,↓reduceIte,Env.put,stepO,lenV,binV,binInt,unV,loadV,sliceV,boundOf,convV,slstrV,if_pos,if_neg,Int.reduceToNat,Nat.reducePow,V.cells,V.isCell,V.boxable,Nat.reduceEqDiff,reduceCtorEq,reduceIte,ite_self,enterEnv,e0,e5,e9,hlt,hd,hsub,htk]
          refine calP_ro rfl hp rfl ?_
          simp -implicitDefEqProofs (disch := omega) only [↓ZD,ZP,cnd_t,cnd_f,↓reduceIte,Env.put,stepO,lenV,binV,binInt,unV,loadV,sliceV,boundOf,convV,slstrV,if_pos,if_neg,Int.reduceToNat,Nat.reducePow,V.cells,V.isCell,V.boxable,Nat.reduceEqDiff,reduceCtorEq,reduceIte,ite_self,enterEnv,e0,e5,e9,hlt,hd]
          exact gives_eq rfl rfl
      | true =>
        rw [if_neg (by rw [hpre]; simp)] at hbc
        have hbad' : bad s = (bad (s.drop (pos + w))).map (· + (out ++ [x]).length) := by
          rw [hbad, hbc, Option.map_map]
          congr 1
          funext i
          simp; omega
        rw [hpre] at hp
        rcases hout with ⟨rfl, rfl, h3⟩ | ⟨g, rfl, h3, h4⟩
        · have hH1 : H1 = [] := by simpa using h3
          subst hH1
          simp -implicitDefEqProofs (disch := omega) only [↓ZD,ZP,cnd_t,cnd_f,↓reduceIte,Env.put,stepO,lenV,binV,binInt,unV,loadV,sliceV,boundOf,convV,slstrV,if_pos,if_neg,Int.reduceToNat,Nat.reducePow,V.cells,V.isCell,V.boxable,Nat.reduceEqDiff,reduceCtorEq,reduceIte,ite_self,enterEnv,e0,e5,e9,hlt,hd,hsub,htk]
          refine calP_ro rfl hp rfl ?_
          simp -implicitDefEqProofs (disch := omega) only [↓ZD,ZP,cnd_t,cnd_f,↓reduceIte,Env.put,stepO,lenV,binV,binInt,unV,loadV,sliceV,boundOf,convV,slstrV,if_pos,if_neg,Int.reduceToNat,Nat.reducePow,V.cells,V.isCell,V.boxable,Nat.reduceEqDiff,reduceCtorEq,reduceIte,ite_self,enterEnv,e0,e5,e9,hlt,hd,fillL,evParts,splice,List.take_zero,List.take_succ_cons,List.drop_succ_cons,List.drop_zero,List.drop_nil,appendV,srcCells,readSl]
          exact ⟨s.length - (pos + w), by omega, pos + w, [x], .view 1 0 0 1, [.cells 0 1 true (rl [x])], rfl, .inr ⟨0, rfl, rfl, rfl⟩, d2, rfl, hnext, hbad', rfl⟩
        · obtain ⟨c1, hH1⟩ : ∃ c1, H1 = [c1] := List.length_eq_one_iff.1 (by simpa using h4)
          subst hH1
          simp only [List.getElem?_cons_succ,List.getElem?_cons_zero,Option.some.injEq] at h3
          subst h3
          have hcl := rl_len out
          have htake : (rl out).take out.length ++ [V.int .i32 (x : Nat)] = rl (out ++ [x]) := by rw [rl_app, ← hcl, List.take_length]; rfl
          have hlen1 : (out ++ [x]).length = out.length + 1 := by simp
          simp -implicitDefEqProofs (disch := omega) only [↓ZD,ZP,cnd_t,cnd_f,↓reduceIte,Env.put,stepO,lenV,binV,binInt,unV,loadV,sliceV,boundOf,convV,slstrV,if_pos,if_neg,Int.reduceToNat,Nat.reducePow,V.cells,V.isCell,V.boxable,Nat.reduceEqDiff,reduceCtorEq,reduceIte,ite_self,enterEnv,e0,e5,e9,hlt,hd,hsub,htk]
          refine calP_ro rfl hp rfl ?_
          simp -implicitDefEqProofs (disch := omega) only [↓ZD,ZP,cnd_t,cnd_f,↓reduceIte,Env.put,stepO,lenV,binV,binInt,unV,loadV,sliceV,boundOf,convV,slstrV,if_pos,if_neg,Int.reduceToNat,Nat.reducePow,V.cells,V.isCell,V.boxable,Nat.reduceEqDiff,reduceCtorEq,reduceIte,ite_self,enterEnv,e0,e5,e9,hlt,hd,fillL,evParts,splice,List.take_zero,List.take_succ_cons,List.drop_succ_cons,List.drop_zero,List.drop_nil,appendV,srcCells,readSl,hcl,htake]
          exact ⟨s.length - (pos + w), by omega, pos + w, out ++ [x], .view 1 (g + 1) 0 (out.length + 1), [.cells (g + 1) 1 true (rl (out ++ [x]))], rfl, .inr ⟨g + 1, by rw [hlen1], rfl, rfl⟩, d2, rfl, hnext, hbad', rfl⟩
    · rw [if_neg (fun h => hx h.1)] at hbc
      have hbad' : bad s = (bad (s.drop (pos + w))).map (· + (out ++ [x]).length) := by
        rw [hbad, hbc, Option.map_map]
        congr 1
        funext i
        simp; omega
      rcases hout with ⟨rfl, rfl, h3⟩ | ⟨g, rfl, h3, h4⟩
      · have hH1 : H1 = [] := by simpa using h3
        subst hH1
        simp -implicitDefEqProofs (disch := omega) only [↓ZD,ZP,cnd_t,cnd_f,↓reduceIte,Env.put,stepO,lenV,binV,binInt,unV,loadV,sliceV,boundOf,convV,slstrV,if_pos,if_neg,Int.reduceToNat,Nat.reducePow,V.cells,V.isCell,V.boxable,Nat.reduceEqDiff,reduceCtorEq,reduceIte,ite_self,enterEnv,e0,e5,e9,hlt,hd,fillL,evParts,splice,List.take_zero,List.take_succ_cons,List.drop_succ_cons,List.drop_zero,List.drop_nil,appendV,srcCells,readSl]
        exact ⟨s.length - (pos + w), by omega, pos + w, [x], .view 1 0 0 1, [.cells 0 1 true (rl [x])], rfl, .inr ⟨0, rfl, rfl, rfl⟩, d2, rfl, hnext, hbad', rfl⟩
      · obtain ⟨c1, hH1⟩ : ∃ c1, H1 = [c1] := List.length_eq_one_iff.1 (by simpa using h4)
        subst hH1
        simp only [List.getElem?_cons_succ,List.getElem?_cons_zero,Option.some.injEq] at h3
        subst h3
        have hcl := rl_len out
        have htake : (rl out).take out.length ++ [V.int .i32 (x : Nat)] = rl (out ++ [x]) := by rw [rl_app, ← hcl, List.take_length]; rfl
        have hlen1 : (out ++ [x]).length = out.length + 1 := by simp
        simp -implicitDefEqProofs (disch := omega) only [↓ZD,ZP,cnd_t,cnd_f,↓reduceIte,Env.put,stepO,lenV,binV,binInt,unV,loadV,sliceV,boundOf,convV,slstrV,if_pos,if_neg,Int.reduceToNat,Nat.reducePow,V.cells,V.isCell,V.boxable,Nat.reduceEqDiff,reduceCtorEq,reduceIte,ite_self,enterEnv,e0,e5,e9,hlt,hd,fillL,evParts,splice,List.take_zero,List.take_succ_cons,List.drop_succ_cons,List.drop_zero,List.drop_nil,appendV,srcCells,readSl,hcl,htake]
        exact ⟨s.length - (pos + w), by omega, pos + w, out ++ [x], .view 1 (g + 1) 0 (out.length + 1), [.cells (g + 1) 1 true (rl (out ++ [x]))], rfl, .inr ⟨g + 1, by rw [hlen1], rfl, rfl⟩, d2, rfl, hnext, hbad', rfl⟩
  · have hnl : ¬ pos < s.length := by omega
    rw [List.drop_of_length_le hge] at hrn hbad
    rw [rn_nil, List.append_nil] at hrn
    have hb0 : bad s = none := hbad
    rw [runesR, hb0, hrn]
    rcases hout with ⟨rfl, rfl, h3⟩ | ⟨g, rfl, h3, h4⟩
    · simp -implicitDefEqProofs (disch := omega) only [↓ZD,ZP,cnd_t,cnd_f,↓reduceIte,Env.put,stepO,lenV,binV,binInt,unV,loadV,sliceV,boundOf,convV,slstrV,if_pos,if_neg,Int.reduceToNat,Nat.reducePow,V.cells,V.isCell,V.boxable,Nat.reduceEqDiff,reduceCtorEq,reduceIte,ite_self,enterEnv,e0,e5,e9,hnl]
      exact gives_eq rfl rfl
    · obtain ⟨c1, hH1⟩ : ∃ c1, H1 = [c1] := List.length_eq_one_iff.1 (by simpa using h4)
      subst hH1
      simp only [List.getElem?_cons_succ,List.getElem?_cons_zero,Option.some.injEq] at h3
      subst h3
      have hcl := rl_len out
      have htake : (rl out).take out.length = rl out := by rw [← hcl, List.take_length]
      simp -implicitDefEqProofs (disch := omega) only [↓ZD,ZP,cnd_t,cnd_f,↓reduceIte,Env.put,stepO,lenV,binV,binInt,unV,loadV,sliceV,boundOf,convV,slstrV,if_pos,if_neg,Int.reduceToNat,Nat.reducePow,V.cells,V.isCell,V.boxable,Nat.reduceEqDiff,reduceCtorEq,reduceIte,ite_self,enterEnv,e0,e5,e9,hnl]
      refine gives_lend 1 (v' := .tup [rsl out, .int .i64 0, .int .i64 0]) ?_ (by simp [V.ro, roL, rsl, rl_ro]) rfl
      simp only [lend1,borL,bor,List.getElem?_cons_succ,List.getElem?_cons_zero,if_true,List.drop_zero,Nat.mul_one,htake,rsl]
end Fe
open Go Go.Proofs
namespace Fe
def b49 : C :=
 (.seq
 (.region false [
 oQ 2 (.mov (.c (.sl true [] 0))),
 oQ 3 (.mov (.c (.int .i64 0)))])
 (.seq
 (.region false [
 oQ 4 (.mov (.c (.sl true [] 0)))])
 (.seq
 (.seq
 (.region false [
 oQ 5 (.mov (.t 0)),
 oQ 6 (.nilck (.t 5)),
 oQ 7 (.faddr 1 (.t 6)),
 oQ 8 (.load false 1 (.t 7)),
 oQ 9 (.bin 0 .add (.t 8) (.c (.int .i64 1))),
 oQ 10 (.nilck (.t 5)),
 oQ 11 (.faddr 1 (.t 10)),
 ⟨none, .op (.store 1 (.t 11) (.t 9)), none⟩])
 (.block 0
 (.loop
 (.seq
 (.seq
 (.region true [
 oQ 12 (.mov (.t 0)),
 oQ 13 (.nilck (.t 12)),
 oQ 14 (.faddr 1 (.t 13)),
 oQ 15 (.load false 1 (.t 14)),
 oQ 16 (.mov (.t 0)),
 oQ 17 (.nilck (.t 16)),
 oQ 18 (.faddr 0 (.t 17)),
 oQ 19 (.load false 1 (.t 18)),
 oQ 20 (.len false (.t 19)),
 oQ 21 (.bin 0 .lss (.t 15) (.t 20))])
 (.cond (.t 21)
 .skip
 (.exit 0)))
 (.seq
 (.block 1
 (.seq
 (.seq
 (.region true [
 oQ 29 (.mov (.t 0)),
 oQ 30 (.nilck (.t 29)),
 oQ 31 (.faddr 0 (.t 30)),
 oQ 32 (.load false 1 (.t 31)),
 oQ 33 (.mov (.t 0)),
 oQ 34 (.nilck (.t 33)),
 oQ 35 (.faddr 1 (.t 34)),
 oQ 36 (.load false 1 (.t 35)),
 oQ 37 (.iaddr 1 (.t 32) (.t 36)),
 oQ 38 (.load false 1 (.t 37)),
 oQ 39 (.bin 0 .eql (.t 38) (.c (.int .i32 39)))])
 (.cond (.t 39)
 (.seq
 (.seq
 (.region true [
 oQ 40 (.mov (.t 0)),
 oQ 41 (.nilck (.t 40)),
 oQ 42 (.faddr 1 (.t 41)),
 oQ 43 (.load false 1 (.t 42)),
 oQ 44 (.bin 0 .add (.t 43) (.c (.int .i64 1))),
 oQ 45 (.mov (.t 0)),
 oQ 46 (.nilck (.t 45)),
 oQ 47 (.faddr 0 (.t 46)),
 oQ 48 (.load false 1 (.t 47)),
 oQ 49 (.len false (.t 48)),
 oQ 50 (.bin 0 .eql (.t 44) (.t 49)),
 oQ 51 (.mov (.t 50)),
 ⟨some 52, .op (.mov (.t 0)), some (51, false)⟩,
 ⟨some 53, .op (.nilck (.t 52)), some (51, false)⟩,
 ⟨some 54, .op (.faddr 0 (.t 53)), some (51, false)⟩,
 ⟨some 55, .op (.load false 1 (.t 54)), some (51, false)⟩,
 ⟨some 56, .op (.mov (.t 0)), some (51, false)⟩,
 ⟨some 57, .op (.nilck (.t 56)), some (51, false)⟩,
 ⟨some 58, .op (.faddr 1 (.t 57)), some (51, false)⟩,
 ⟨some 59, .op (.load false 1 (.t 58)), some (51, false)⟩,
 ⟨some 60, .op (.bin 0 .add (.t 59) (.c (.int .i64 1))), some (51, false)⟩,
 ⟨some 61, .op (.iaddr 1 (.t 55) (.t 60)), some (51, false)⟩,
 ⟨some 62, .op (.load false 1 (.t 61)), some (51, false)⟩,
 ⟨some 63, .op (.bin 0 .neq (.t 62) (.c (.int .i32 39))), some (51, false)⟩,
 oQ 64 (.pick (.t 51) (.c (.bool true)) (.t 63))])
 (.cond (.t 64)
 (.seq
 (.region false [
 oQ 65 (.mov (.t 0)),
 oQ 66 (.nilck (.t 65)),
 oQ 67 (.faddr 1 (.t 66)),
 oQ 68 (.load false 1 (.t 67)),
 oQ 69 (.bin 0 .add (.t 68) (.c (.int .i64 1))),
 oQ 70 (.nilck (.t 65)),
 oQ 71 (.faddr 1 (.t 70)),
 ⟨none, .op (.store 1 (.t 71) (.t 69)), none⟩])
 (.seq
 (.region false [
 oQ 72 (.mov (.t 4)),
 oQ 2 (.mov (.t 72)),
 oQ 3 (.mov (.c (.int .i64 0)))])
 .ret))
 .skip))
 (.region false [
 oQ 73 (.mov (.t 0)),
 oQ 74 (.nilck (.t 73)),
 oQ 75 (.faddr 1 (.t 74)),
 oQ 76 (.load false 1 (.t 75)),
 oQ 77 (.bin 0 .add (.t 76) (.c (.int .i64 1))),
 oQ 78 (.nilck (.t 73)),
 oQ 79 (.faddr 1 (.t 78)),
 ⟨none, .op (.store 1 (.t 79) (.t 77)), none⟩]))
 .skip))
 (.region true [
 oQ 80 (.mov (.t 4)),
 oQ 81 (.mov (.t 0)),
 oQ 82 (.nilck (.t 81)),
 oQ 83 (.faddr 0 (.t 82)),
 oQ 84 (.load false 1 (.t 83)),
 oQ 85 (.mov (.t 0)),
 oQ 86 (.nilck (.t 85)),
 oQ 87 (.faddr 1 (.t 86)),
 oQ 88 (.load false 1 (.t 87)),
 oQ 89 (.iaddr 1 (.t 84) (.t 88)),
 oQ 90 (.load false 1 (.t 89)),
 oQ 91 (.mksl [.int .i32 0] 1 [(0, (1, .t 90))]),
 oQ 92 (.append 1 4 (.t 80) (.t 91)),
 oQ 4 (.mov (.t 92))])))
 (.region false [
 oQ 22 (.mov (.t 0)),
 oQ 23 (.nilck (.t 22)),
 oQ 24 (.faddr 1 (.t 23)),
 oQ 25 (.load false 1 (.t 24)),
 oQ 26 (.bin 0 .add (.t 25) (.c (.int .i64 1))),
 oQ 27 (.nilck (.t 22)),
 oQ 28 (.faddr 1 (.t 27)),
 ⟨none, .op (.store 1 (.t 28) (.t 26)), none⟩]))))))
 (.seq
 (.region false [
 oQ 2 (.mov (.c (.sl true [] 0))),
 oQ 3 (.mov (.c (.int .i64 26)))])
 .ret))))
def c49 : CF := ⟨93, 1, [.mov (.t 2), .mov (.t 3)], b49⟩
theorem s49 : stripF Go.Proofs.Try.prog 49 = some c49 := by kernel_rfl

/-- A text's characters, and how many were read, behind the first quote. -/
def textS : List Nat → Option (List Nat × Nat)
  | [] => none
  | [c] => if c = 39 then some ([], 1) else none
  | c :: d :: r => if c = 39 then (if d = 39 then (textS r).map fun p => (39 :: p.1, p.2 + 2) else some ([], 1)) else (textS (d :: r)).map fun p => (c :: p.1, p.2 + 1)

theorem textS_other {c : Nat} {r : List Nat} (h : c ≠ 39) : textS (c :: r) = (textS r).map fun p => (c :: p.1, p.2 + 1) := by
  cases r with
  | nil => simp [textS, h]
  | cons d r => rw [textS, if_neg h]
theorem textS_end {c : Nat} {r : List Nat} (h : c = 39) (hr : ∀ d r', r = d :: r' → d ≠ 39) : textS (c :: r) = some ([], 1) := by
  cases r with
  | nil => simp [textS, h]
  | cons d r => rw [textS, if_pos h, if_neg (hr d r rfl)]
theorem textS_two {r : List Nat} : textS (39 :: 39 :: r) = (textS r).map fun p => (39 :: p.1, p.2 + 2) := by
  rw [textS, if_pos rfl, if_pos rfl]

/-- Where a list of characters lies that a call has made. -/
def Made (b : Nat) (out : List Nat) (v : V) (T : Heap) : Prop := (out = [] ∧ v = .sl true [] 0 ∧ T = []) ∨ ∃ g, v = .view b g 0 out.length ∧ T = [.cells g 1 true (rl out)]

theorem drop_at {rs : List Nat} {j c : Nat} (h : rs[j]? = some c) : rs.drop j = c :: rs.drop (j + 1) := by
  have hlt : j < rs.length := by
    rcases Nat.lt_or_ge j rs.length with h1 | h1
    · exact h1
    · simp [List.getElem?_eq_none h1] at h
  rw [List.drop_eq_getElem_cons hlt]
  rw [List.getElem?_eq_getElem hlt] at h
  rw [Option.some.inj h]

theorem call49 (H : Heap) (k i : Nat) (rs : List Nat) (K : V → Heap → Prop) (hk : H[k]? = some (reader rs i)) (hi : i < rs.length) (hl : rs.length ≤ 1100000)
    (hK1 : ∀ out m v T, textS (rs.drop (i + 1)) = some (out, m) → Made H.length out v T → K (.tup [v, .int .i64 0]) (H.set k (reader rs (i + 1 + m)) ++ T))
    (hK2 : ∀ j T, textS (rs.drop (i + 1)) = none → K (.tup [.sl true [] 0, .int .i64 26]) (H.set k (reader rs j) ++ T)) : Call2 Go.Proofs.Try.prog 49 [.cell k 0 0] H K := by
  have hkl := getElem?_lt hk
  refine call2_go mix s49 (Nat.le_of_ble_eq_true rfl) fun e he => ?_
  have e0 : e 0 = .cell k 0 0 := he 0
  clear he
  simp only [c49,b49, oQ]
  have hk' : H[k]? = some (.cells 0 0 true [.sl false (rl rs) rs.length, .int .i64 (i : Nat)]) := hk
  simp -implicitDefEqProofs (disch := omega) only [↓ZD,ZP,cnd_t,cnd_f,↓reduceIte,Env.put,stepO,lenV,binV,binInt,unV,loadV,sliceV,boundOf,convV,slstrV,if_pos,if_neg,Int.reduceToNat,Nat.reducePow,V.cells,V.isCell,V.boxable,Nat.reduceEqDiff,reduceCtorEq,reduceIte,ite_self,enterEnv,e0,hk',hkl,fillL,evParts,splice,List.take_zero,List.take_succ_cons,List.drop_succ_cons,List.drop_zero,List.drop_nil]
  refine go_loop (fun m e H' => ∃ j out v T, i + 1 ≤ j ∧ j ≤ rs.length ∧ m = rs.length - j ∧ H' = H.set k (reader rs j) ++ T ∧ Made H.length out v T ∧ out.length ≤ j ∧
      textS (rs.drop (i + 1)) = ((textS (rs.drop j)).map fun p => (out ++ p.1, p.2 + (j - (i + 1)))) ∧ e 0 = .cell k 0 0 ∧ e 4 = v)
    (rs.length - (i + 1)) ⟨i + 1, [], .sl true [] 0, [], Nat.le_refl _, hi, rfl, ?_, .inl ⟨rfl, rfl, rfl⟩, Nat.zero_le _, by simp, ?_, ?_⟩ ?_
  · rw [List.append_nil]; rfl
  · simp [Env.set, e0]
  · simp [Env.set]
  rintro m e H' ⟨j, out, v, T, hij, hj, rfl, rfl, hT, hol, hte, e0, e4⟩
  have hg : ∀ (r : HObj) (T : Heap), (H.set k r ++ T)[k]? = some r := by
    intro r T
    rw [List.getElem?_append_left (by rw [List.length_set]; exact hkl)]
    exact get_set_self hkl
  have hl2 : ∀ (r : HObj) (T : Heap), (H.set k r ++ T).length = H.length + T.length := by intro r T; simp
  have hset : ∀ (r x : HObj) (T : Heap), (H.set k r ++ T).set k x = H.set k x ++ T := by
    intro r x T
    rw [List.set_append_left _ _ (by rw [List.length_set]; exact hkl), List.set_set]
  have hout : ∀ (r x : HObj), (H.set k r ++ [x])[H.length]? = some x := fun r x => get_push_eq (by simp)
  have houts : ∀ (r x y : HObj), (H.set k r ++ [x]).set H.length y = H.set k r ++ [y] := by
    intro r x y
    have := set_push (H := H.set k r) (x := x) (y := y)
    rwa [List.length_set] at this
  have hg0 : ∀ r : HObj, (H.set k r)[k]? = some r := fun r => get_set_self hkl
  have hcl := rl_len out
  have htake : ∀ x : Nat, (rl out).take out.length ++ [V.int .i32 (x : Nat)] = rl (out ++ [x]) := by intro x; rw [rl_app, ← hcl, List.take_length]; rfl
  have hlen1 : ∀ x : Nat, (out ++ [x]).length = out.length + 1 := by simp
  rcases Nat.lt_or_ge j rs.length with hlt | hge
  · have hat : rs[j]? = some rs[j] := List.getElem?_eq_getElem hlt
    have hat2 := rl_get hat
    generalize rs[j] = c at *
    have hdr := drop_at hat
    rw [hdr] at hte
    by_cases hc : c = 39
    · rcases Nat.lt_or_ge (j + 1) rs.length with hlt2 | hge2
      · have hbt : rs[j + 1]? = some rs[j + 1] := List.getElem?_eq_getElem hlt2
        have hbt2 := rl_get hbt
        generalize rs[j + 1] = d at *
        have hdr2 := drop_at hbt
        rw [hdr2] at hte
        by_cases hd : d = 39
        · have hte' : textS (rs.drop (i + 1)) = ((textS (rs.drop (j + 2))).map fun p => ((out ++ [d]) ++ p.1, p.2 + (j + 2 - (i + 1)))) := by
            rw [hte, hc, hd, textS_two, Option.map_map]
            congr 1
            funext p
            simp only [Function.comp,List.append_assoc,List.singleton_append,Prod.mk.injEq,true_and]
            omega
          have hnext : rs.length - (j + 2) < rs.length - j := by omega
          rcases hT with ⟨rfl, rfl, rfl⟩ | ⟨g, rfl, rfl⟩
          · simp -implicitDefEqProofs (disch := omega) only [↓ZD,ZP,ZL,cnd_t,cnd_f,↓reduceIte,Env.put,stepO,lenV,binV,binInt,unV,loadV,sliceV,boundOf,convV,slstrV,if_pos,if_neg,Int.reduceToNat,Nat.reducePow,V.cells,V.isCell,V.boxable,Nat.reduceEqDiff,reduceCtorEq,reduceIte,ite_self,enterEnv,e0,e4,hg,hg0,hl2,List.set_set,List.append_nil,hset,hat2,hbt2,reader,fillL,evParts,splice,List.take_zero,List.take_succ_cons,List.drop_succ_cons,List.drop_zero,List.drop_nil,appendV,srcCells,readSl]
            exact ⟨rs.length - (j + 2), hnext, j + 2, [d], .view H.length 0 0 1, [.cells 0 1 true (rl [d])], by omega, by omega, rfl, rfl, .inr ⟨0, rfl, rfl⟩, by simp, hte', rfl⟩
          · simp -implicitDefEqProofs (disch := omega) only [↓ZD,ZP,cnd_t,cnd_f,↓reduceIte,Env.put,stepO,lenV,binV,binInt,unV,loadV,sliceV,boundOf,convV,slstrV,if_pos,if_neg,Int.reduceToNat,Nat.reducePow,V.cells,V.isCell,V.boxable,Nat.reduceEqDiff,reduceCtorEq,reduceIte,ite_self,enterEnv,e0,e4,hg,hl2,hset,hat2,hbt2,hout,houts,reader,fillL,evParts,splice,List.take_zero,List.take_succ_cons,List.drop_succ_cons,List.drop_zero,List.drop_nil,appendV,srcCells,readSl,hcl,htake]
            exact ⟨rs.length - (j + 2), hnext, j + 2, out ++ [d], .view H.length (g + 1) 0 (out.length + 1), [.cells (g + 1) 1 true (rl (out ++ [d]))], by omega, by omega, rfl, rfl, .inr ⟨g + 1, by rw [hlen1], rfl⟩, by rw [hlen1]; omega, hte', rfl⟩
        · rw [textS_end hc (by rintro d' r' h; simp at h; rw [← h.1]; exact hd)] at hte
          simp -implicitDefEqProofs (disch := omega) only [↓ZD,ZP,cnd_t,cnd_f,↓reduceIte,Env.put,stepO,lenV,binV,binInt,unV,loadV,sliceV,boundOf,convV,slstrV,if_pos,if_neg,Int.reduceToNat,Nat.reducePow,V.cells,V.isCell,V.boxable,Nat.reduceEqDiff,reduceCtorEq,reduceIte,ite_self,enterEnv,e0,e4,hg,hl2,hset,hat2,hbt2,reader,fillL,evParts,splice,List.take_zero,List.take_succ_cons,List.drop_succ_cons,List.drop_zero,List.drop_nil]
          have h := hK1 out (1 + (j - (i + 1))) v T (by rw [hte]; simp) hT
          rw [show i + 1 + (1 + (j - (i + 1))) = j + 1 by omega] at h
          exact h
      · have hjl : j + 1 = rs.length := by omega
        rw [textS_end hc (by rintro d' r' h; rw [List.drop_of_length_le hge2] at h; cases h)] at hte
        simp -implicitDefEqProofs (disch := omega) only [↓ZD,ZP,cnd_t,cnd_f,↓reduceIte,Env.put,stepO,lenV,binV,binInt,unV,loadV,sliceV,boundOf,convV,slstrV,if_pos,if_neg,Int.reduceToNat,Nat.reducePow,V.cells,V.isCell,V.boxable,Nat.reduceEqDiff,reduceCtorEq,reduceIte,ite_self,enterEnv,e0,e4,hg,hl2,hset,hat2,reader,fillL,evParts,splice,List.take_zero,List.take_succ_cons,List.drop_succ_cons,List.drop_zero,List.drop_nil]
        have h := hK1 out (1 + (j - (i + 1))) v T (by rw [hte]; simp) hT
        rw [show i + 1 + (1 + (j - (i + 1))) = j + 1 by omega] at h
        exact h
    · have hte' : textS (rs.drop (i + 1)) = ((textS (rs.drop (j + 1))).map fun p => ((out ++ [c]) ++ p.1, p.2 + (j + 1 - (i + 1)))) := by
        rw [hte, textS_other hc, Option.map_map]
        congr 1
        funext p
        simp only [Function.comp,List.append_assoc,List.singleton_append,Prod.mk.injEq,true_and]
        omega
      have hnext : rs.length - (j + 1) < rs.length - j := by omega
      rcases hT with ⟨rfl, rfl, rfl⟩ | ⟨g, rfl, rfl⟩
      · simp -implicitDefEqProofs (disch := omega) only [↓ZD,ZP,ZL,cnd_t,cnd_f,↓reduceIte,Env.put,stepO,lenV,binV,binInt,unV,loadV,sliceV,boundOf,convV,slstrV,if_pos,if_neg,Int.reduceToNat,Nat.reducePow,V.cells,V.isCell,V.boxable,Nat.reduceEqDiff,reduceCtorEq,reduceIte,ite_self,enterEnv,e0,e4,hg,hg0,hl2,List.set_set,List.append_nil,hset,hat2,reader,fillL,evParts,splice,List.take_zero,List.take_succ_cons,List.drop_succ_cons,List.drop_zero,List.drop_nil,appendV,srcCells,readSl]
        exact ⟨rs.length - (j + 1), hnext, j + 1, [c], .view H.length 0 0 1, [.cells 0 1 true (rl [c])], by omega, by omega, rfl, rfl, .inr ⟨0, rfl, rfl⟩, by simp, hte', rfl⟩
      · simp -implicitDefEqProofs (disch := omega) only [↓ZD,ZP,cnd_t,cnd_f,↓reduceIte,Env.put,stepO,lenV,binV,binInt,unV,loadV,sliceV,boundOf,convV,slstrV,if_pos,if_neg,Int.reduceToNat,Nat.reducePow,V.cells,V.isCell,V.boxable,Nat.reduceEqDiff,reduceCtorEq,reduceIte,ite_self,enterEnv,e0,e4,hg,hl2,hset,hat2,hout,houts,reader,fillL,evParts,splice,List.take_zero,List.take_succ_cons,List.drop_succ_cons,List.drop_zero,List.drop_nil,appendV,srcCells,readSl,hcl,htake]
        exact ⟨rs.length - (j + 1), hnext, j + 1, out ++ [c], .view H.length (g + 1) 0 (out.length + 1), [.cells (g + 1) 1 true (rl (out ++ [c]))], by omega, by omega, rfl, rfl, .inr ⟨g + 1, by rw [hlen1], rfl⟩, by rw [hlen1]; omega, hte', rfl⟩
  · have hjl : j = rs.length := by omega
    rw [List.drop_of_length_le hge] at hte
    simp -implicitDefEqProofs (disch := omega) only [↓ZD,ZP,cnd_t,cnd_f,↓reduceIte,Env.put,stepO,lenV,binV,binInt,unV,loadV,sliceV,boundOf,convV,slstrV,if_pos,if_neg,Int.reduceToNat,Nat.reducePow,V.cells,V.isCell,V.boxable,Nat.reduceEqDiff,reduceCtorEq,reduceIte,ite_self,enterEnv,e0,e4,hg,hl2,reader]
    exact hK2 j T (by rw [hte]; rfl)
end Fe
