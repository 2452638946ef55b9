/-
  Contracts; the tables that a row lays. No condition.
-/
import Derived.Test.YtjgjfabmakkooaaGreatDoorFhL
import Derived.Test.YtjgjfabmakkooaaGreatDoorProg
import Derived.Lib.LaidU8
set_option linter.unusedSimpArgs false
set_option linter.unusedVariables false
open Go Go.Proofs
namespace Fe
def b429 : C :=
 (.seq
 (.region false [
 oQ 2 (.mov (.c (.str [])))])
 (.seq
 (.block 0
 (.loop
 (.seq
 (.seq
 (.region false [
 oQ 3 (.mov (.t 0)),
 oQ 4 (.len true (.t 3)),
 oQ 5 (.bin 0 .gtr (.t 4) (.c (.int .i64 0))),
 oQ 6 (.mov (.t 5)),
 ⟨some 7, .op (.mov (.t 0)), some (6, true)⟩,
 ⟨some 8, .op (.index (.t 7) (.c (.int .i64 0))), some (6, true)⟩,
 ⟨some 9, .op (.bin 0 .eql (.t 8) (.c (.int .u8 32))), some (6, true)⟩,
 ⟨some 10, .op (.mov (.t 9)), some (6, true)⟩,
 ⟨some 11, .op (.mov (.t 0)), some (10, false)⟩,
 ⟨some 12, .op (.index (.t 11) (.c (.int .i64 0))), some (10, false)⟩,
 ⟨some 13, .op (.bin 0 .eql (.t 12) (.c (.int .u8 9))), some (10, false)⟩,
 ⟨some 14, .op (.pick (.t 10) (.c (.bool true)) (.t 13)), some (6, true)⟩,
 oQ 15 (.pick (.t 6) (.t 14) (.c (.bool false)))])
 (.cond (.t 15)
 .skip
 (.exit 0)))
 (.block 1
 (.region false [
 oQ 16 (.mov (.t 0)),
 oQ 17 (.slstr (.t 16) (some (.c (.int .i64 1))) none),
 oQ 0 (.mov (.t 17))])))))
 (.seq
 (.block 2
 (.loop
 (.seq
 (.seq
 (.region false [
 oQ 18 (.mov (.t 0)),
 oQ 19 (.len true (.t 18)),
 oQ 20 (.bin 0 .gtr (.t 19) (.c (.int .i64 0))),
 oQ 21 (.mov (.t 20)),
 ⟨some 22, .op (.mov (.t 0)), some (21, true)⟩,
 ⟨some 23, .op (.mov (.t 0)), some (21, true)⟩,
 ⟨some 24, .op (.len true (.t 23)), some (21, true)⟩,
 ⟨some 25, .op (.bin 0 .sub (.t 24) (.c (.int .i64 1))), some (21, true)⟩,
 ⟨some 26, .op (.index (.t 22) (.t 25)), some (21, true)⟩,
 ⟨some 27, .op (.bin 0 .eql (.t 26) (.c (.int .u8 32))), some (21, true)⟩,
 ⟨some 28, .op (.mov (.t 27)), some (21, true)⟩,
 ⟨some 29, .op (.mov (.t 0)), some (28, false)⟩,
 ⟨some 30, .op (.mov (.t 0)), some (28, false)⟩,
 ⟨some 31, .op (.len true (.t 30)), some (28, false)⟩,
 ⟨some 32, .op (.bin 0 .sub (.t 31) (.c (.int .i64 1))), some (28, false)⟩,
 ⟨some 33, .op (.index (.t 29) (.t 32)), some (28, false)⟩,
 ⟨some 34, .op (.bin 0 .eql (.t 33) (.c (.int .u8 9))), some (28, false)⟩,
 ⟨some 35, .op (.pick (.t 28) (.c (.bool true)) (.t 34)), some (21, true)⟩,
 oQ 36 (.pick (.t 21) (.t 35) (.c (.bool false)))])
 (.cond (.t 36)
 .skip
 (.exit 2)))
 (.block 3
 (.region false [
 oQ 37 (.mov (.t 0)),
 oQ 38 (.mov (.t 0)),
 oQ 39 (.len true (.t 38)),
 oQ 40 (.bin 0 .sub (.t 39) (.c (.int .i64 1))),
 oQ 41 (.slstr (.t 37) none (some (.t 40))),
 oQ 0 (.mov (.t 41))])))))
 (.seq
 (.region false [
 oQ 42 (.mov (.t 0)),
 oQ 2 (.mov (.t 42))])
 .ret))))
def c429 : CF := ⟨43, 1, [.mov (.t 2)], b429⟩
def b415 : C :=
 (.seq
 (.region false [
 oQ 2 (.mov (.c (.sl true [] 0))),
 oQ 3 (.mov (.c (.int .i64 0))),
 oQ 4 (.mov (.c (.int .i64 0)))])
 (.seq
 (.region false [
 oQ 17 (.mov (.t 0)),
 ⟨some 18, .call false (.c (.fn 8 [] [])) [.t 17], none⟩,
 oQ 16 (.mov (.t 18)),
 oQ 19 (.extract (.t 16) 0),
 oQ 20 (.extract (.t 16) 1),
 oQ 21 (.extract (.t 16) 2),
 oQ 5 (.mov (.t 19)),
 oQ 6 (.mov (.t 20)),
 oQ 7 (.mov (.t 21))])
 (.seq
 (.seq
 (.region false [
 oQ 22 (.mov (.t 6)),
 oQ 23 (.bin 0 .neq (.t 22) (.c (.int .i64 0)))])
 (.cond (.t 23)
 (.seq
 (.region false [
 oQ 24 (.mov (.t 6)),
 oQ 25 (.mov (.t 7)),
 oQ 2 (.mov (.c (.sl true [] 0))),
 oQ 3 (.mov (.t 24)),
 oQ 4 (.mov (.t 25))])
 .ret)
 .skip))
 (.seq
 (.region false [
 oQ 27 (.mov (.t 0)),
 ⟨some 28, .call false (.c (.fn 20 [] [])) [.t 27], none⟩,
 oQ 26 (.mov (.t 28)),
 oQ 29 (.extract (.t 26) 0),
 oQ 30 (.extract (.t 26) 1),
 oQ 31 (.extract (.t 26) 2),
 oQ 8 (.mov (.t 29)),
 oQ 9 (.mov (.t 30)),
 oQ 10 (.mov (.t 31))])
 (.seq
 (.region false [
 oQ 11 (.mov (.c (.sl true [] 0)))])
 (.seq
 (.region false [
 oQ 12 (.mov (.c (.int .i64 0))),
 oQ 13 (.mov (.c (.int .i64 0)))])
 (.seq
 (.seq
 (.region false [
 oQ 14 (.mov (.c (.int .i64 0)))])
 (.block 0
 (.loop
 (.seq
 (.seq
 (.region false [
 oQ 32 (.mov (.t 14)),
 oQ 33 (.mov (.t 5)),
 oQ 34 (.len false (.t 33)),
 oQ 35 (.bin 0 .lss (.t 32) (.t 34))])
 (.cond (.t 35)
 .skip
 (.exit 0)))
 (.seq
 (.block 1
 (.seq
 (.region false [
 oQ 38 (.mov (.t 5)),
 oQ 39 (.mov (.t 14)),
 oQ 40 (.iaddr 5 (.t 38) (.t 39)),
 oQ 41 (.load true 5 (.t 40)),
 oQ 15 (.box (.c (.agg [.int .i64 0, .str [], .int .i64 0, .sl true [] 0, .sl true [] 0]))),
 ⟨none, .op (.store 5 (.t 15) (.t 41)), none⟩])
 (.block 2
 (.seq
 (.region false [
 oQ 43 (.faddr 0 (.t 15)),
 oQ 44 (.load false 1 (.t 43)),
 oQ 45 (.bin 0 .eql (.t 44) (.c (.int .i64 6))),
 oQ 46 (.mov (.t 45)),
 ⟨some 47, .op (.faddr 1 (.t 15)), some (46, true)⟩,
 ⟨some 48, .op (.load false 1 (.t 47)), some (46, true)⟩,
 ⟨some 49, .op (.bin 0 .eql (.t 48) (.c (.str [123]))), some (46, true)⟩,
 oQ 50 (.pick (.t 46) (.t 49) (.c (.bool false))),
 oQ 42 (.mov (.t 50))])
 (.cond (.t 42)
 (.region false [
 oQ 51 (.mov (.t 13)),
 oQ 52 (.bin 0 .add (.t 51) (.c (.int .i64 1))),
 oQ 13 (.mov (.t 52))])
 (.seq
 (.region false [
 oQ 54 (.faddr 0 (.t 15)),
 oQ 55 (.load false 1 (.t 54)),
 oQ 56 (.bin 0 .eql (.t 55) (.c (.int .i64 6))),
 oQ 57 (.mov (.t 56)),
 ⟨some 58, .op (.faddr 1 (.t 15)), some (57, true)⟩,
 ⟨some 59, .op (.load false 1 (.t 58)), some (57, true)⟩,
 ⟨some 60, .op (.bin 0 .eql (.t 59) (.c (.str [125]))), some (57, true)⟩,
 oQ 61 (.pick (.t 57) (.t 60) (.c (.bool false))),
 oQ 62 (.mov (.t 61)),
 ⟨some 63, .op (.mov (.t 13)), some (62, true)⟩,
 ⟨some 64, .op (.bin 0 .gtr (.t 63) (.c (.int .i64 0))), some (62, true)⟩,
 oQ 65 (.pick (.t 62) (.t 64) (.c (.bool false))),
 oQ 53 (.mov (.t 65))])
 (.cond (.t 53)
 (.region false [
 oQ 66 (.mov (.t 13)),
 oQ 67 (.bin 0 .sub (.t 66) (.c (.int .i64 1))),
 oQ 13 (.mov (.t 67))])
 (.seq
 (.region false [
 oQ 69 (.faddr 0 (.t 15)),
 oQ 70 (.load false 1 (.t 69)),
 oQ 71 (.bin 0 .eql (.t 70) (.c (.int .i64 6))),
 oQ 72 (.mov (.t 71)),
 ⟨some 73, .op (.faddr 1 (.t 15)), some (72, true)⟩,
 ⟨some 74, .op (.load false 1 (.t 73)), some (72, true)⟩,
 ⟨some 75, .op (.bin 0 .eql (.t 74) (.c (.str [226, 139, 132]))), some (72, true)⟩,
 oQ 76 (.pick (.t 72) (.t 75) (.c (.bool false))),
 oQ 77 (.mov (.t 76)),
 ⟨some 78, .op (.mov (.t 13)), some (77, true)⟩,
 ⟨some 79, .op (.bin 0 .eql (.t 78) (.c (.int .i64 0))), some (77, true)⟩,
 oQ 80 (.pick (.t 77) (.t 79) (.c (.bool false))),
 oQ 68 (.mov (.t 80))])
 (.cond (.t 68)
 (.seq
 (.region false [
 oQ 81 (.mov (.t 11)),
 oQ 82 (.mov (.t 8)),
 oQ 83 (.mov (.t 12)),
 oQ 84 (.faddr 2 (.t 15)),
 oQ 85 (.load false 1 (.t 84)),
 oQ 86 (.slice 1 (.t 82) (some (.t 83)) (some (.t 85)) none),
 oQ 87 (.conv .runesStr (.t 86)),
 ⟨some 88, .call false (.c (.fn 29 [] [])) [.t 87], none⟩,
 oQ 89 (.mksl [.str []] 1 [(0, (1, .t 88))]),
 oQ 90 (.append 1 16 (.t 81) (.t 89)),
 oQ 11 (.mov (.t 90))])
 (.region false [
 oQ 91 (.faddr 2 (.t 15)),
 oQ 92 (.load false 1 (.t 91)),
 oQ 93 (.bin 0 .add (.t 92) (.c (.int .i64 1))),
 oQ 12 (.mov (.t 93))]))
 (.seq
 (.region false [
 oQ 95 (.faddr 0 (.t 15)),
 oQ 96 (.load false 1 (.t 95)),
 oQ 97 (.bin 0 .eql (.t 96) (.c (.int .i64 0))),
 oQ 94 (.mov (.t 97))])
 (.cond (.t 94)
 (.region false [
 oQ 98 (.mov (.t 11)),
 oQ 99 (.mov (.t 8)),
 oQ 100 (.mov (.t 12)),
 oQ 101 (.faddr 2 (.t 15)),
 oQ 102 (.load false 1 (.t 101)),
 oQ 103 (.slice 1 (.t 99) (some (.t 100)) (some (.t 102)) none),
 oQ 104 (.conv .runesStr (.t 103)),
 ⟨some 105, .call false (.c (.fn 29 [] [])) [.t 104], none⟩,
 oQ 106 (.mksl [.str []] 1 [(0, (1, .t 105))]),
 oQ 107 (.append 1 16 (.t 98) (.t 106)),
 oQ 11 (.mov (.t 107))])
 .skip)))))))))))
 (.region false [
 oQ 36 (.mov (.t 14)),
 oQ 37 (.bin 0 .add (.t 36) (.c (.int .i64 1))),
 oQ 14 (.mov (.t 37))]))))))
 (.seq
 (.region false [
 oQ 108 (.mov (.t 11)),
 oQ 2 (.mov (.t 108)),
 oQ 3 (.mov (.c (.int .i64 0))),
 oQ 4 (.mov (.c (.int .i64 0)))])
 .ret))))))))
def c415 : CF := ⟨109, 1, [.mov (.t 2), .mov (.t 3), .mov (.t 4)], b415⟩
def b405 : C :=
 (.seq
 (.region false [
 oQ 2 (.mov (.c (.bool false)))])
 (.seq
 (.region false [
 oQ 11 (.mov (.t 0)),
 ⟨some 12, .call false (.c (.fn 14 [] [])) [.t 11], none⟩,
 oQ 10 (.mov (.t 12)),
 oQ 13 (.extract (.t 10) 0),
 oQ 14 (.extract (.t 10) 1),
 oQ 15 (.extract (.t 10) 2),
 oQ 3 (.mov (.t 13)),
 oQ 4 (.mov (.t 14)),
 oQ 5 (.mov (.t 15))])
 (.seq
 (.region false [
 oQ 17 (.mov (.t 0)),
 ⟨some 18, .call false (.c (.fn 15 [] [])) [.t 17], none⟩,
 oQ 16 (.mov (.t 18)),
 oQ 19 (.extract (.t 16) 0),
 oQ 20 (.extract (.t 16) 1),
 oQ 21 (.extract (.t 16) 2),
 oQ 6 (.mov (.t 19)),
 oQ 7 (.mov (.t 20)),
 oQ 8 (.mov (.t 21))])
 (.seq
 (.seq
 (.region false [
 ⟨some 22, .call false (.c (.fn 9 [] [])) [], none⟩,
 oQ 23 (.un .not (.t 22)),
 oQ 24 (.mov (.t 23)),
 ⟨some 25, .op (.mov (.t 4)), some (24, false)⟩,
 ⟨some 26, .op (.mov (.t 7)), some (24, false)⟩,
 ⟨some 27, .op (.bin 0 .neq (.t 25) (.t 26)), some (24, false)⟩,
 oQ 28 (.pick (.t 24) (.c (.bool true)) (.t 27)),
 oQ 29 (.mov (.t 28)),
 ⟨some 30, .op (.mov (.t 5)), some (29, false)⟩,
 ⟨some 31, .op (.mov (.t 8)), some (29, false)⟩,
 ⟨some 32, .op (.bin 0 .neq (.t 30) (.t 31)), some (29, false)⟩,
 oQ 33 (.pick (.t 29) (.c (.bool true)) (.t 32)),
 oQ 34 (.mov (.t 33)),
 ⟨some 35, .op (.mov (.t 3)), some (34, false)⟩,
 ⟨some 36, .op (.len false (.t 35)), some (34, false)⟩,
 ⟨some 37, .op (.mov (.t 6)), some (34, false)⟩,
 ⟨some 38, .op (.len false (.t 37)), some (34, false)⟩,
 ⟨some 39, .op (.bin 0 .neq (.t 36) (.t 38)), some (34, false)⟩,
 oQ 40 (.pick (.t 34) (.c (.bool true)) (.t 39))])
 (.cond (.t 40)
 (.seq
 (.region false [
 oQ 2 (.mov (.c (.bool false)))])
 .ret)
 .skip))
 (.seq
 (.seq
 (.region false [
 oQ 9 (.mov (.c (.int .i64 0)))])
 (.block 0
 (.loop
 (.seq
 (.seq
 (.region false [
 oQ 41 (.mov (.t 9)),
 oQ 42 (.mov (.t 3)),
 oQ 43 (.len false (.t 42)),
 oQ 44 (.bin 0 .lss (.t 41) (.t 43))])
 (.cond (.t 44)
 .skip
 (.exit 0)))
 (.seq
 (.block 1
 (.seq
 (.region true [
 oQ 47 (.mov (.t 3)),
 oQ 48 (.mov (.t 9)),
 oQ 49 (.iaddr 1 (.t 47) (.t 48)),
 oQ 50 (.load false 1 (.t 49)),
 oQ 51 (.mov (.t 6)),
 oQ 52 (.mov (.t 9)),
 oQ 53 (.iaddr 1 (.t 51) (.t 52)),
 oQ 54 (.load false 1 (.t 53)),
 oQ 55 (.bin 0 .neq (.t 50) (.t 54))])
 (.cond (.t 55)
 (.seq
 (.region false [
 oQ 2 (.mov (.c (.bool false)))])
 .ret)
 .skip)))
 (.region false [
 oQ 45 (.mov (.t 9)),
 oQ 46 (.bin 0 .add (.t 45) (.c (.int .i64 1))),
 oQ 9 (.mov (.t 46))]))))))
 (.seq
 (.region false [
 oQ 2 (.mov (.c (.bool true)))])
 .ret))))))
def c405 : CF := ⟨56, 1, [.mov (.t 2)], b405⟩
theorem s429 : stripF Go.Proofs.Tryz.prog 29 = some c429 := by kernel_rfl
theorem s415 : stripF Go.Proofs.Tryz.prog 15 = some c415 := by kernel_rfl
theorem s405 : stripF Go.Proofs.Tryz.prog 5 = some c405 := by kernel_rfl

/-! ### Blanks cut off, at the head first -/
theorem rtrim_nil (p : Nat → Bool) : rtrim p [] = [] := rfl
theorem rtrim_cons (p : Nat → Bool) (c : UInt8) : ∀ s : List UInt8, rtrim p (c :: s) = if rtrim p s = [] then (if p c.toNat = true then [] else [c]) else c :: rtrim p s := by
  intro s
  rcases List.eq_nil_or_concat s with rfl | ⟨t, d, rfl⟩
  · rw [show ([c] : List UInt8) = [] ++ [c] from rfl, rtrim_snoc, rtrim_nil, if_pos rfl]
  · rw [List.concat_eq_append, ← List.cons_append, rtrim_snoc, rtrim_snoc]
    split
    · exact rtrim_cons p c t
    · rw [if_neg (by simp), List.cons_append]
termination_by s => s.length
decreasing_by simp_all
theorem trim_comm (p : Nat → Bool) : ∀ s : List UInt8, rtrim p (ltrim p s) = ltrim p (rtrim p s)
  | [] => rfl
  | c :: s => by
    rw [rtrim_cons]
    cases hc : p c.toNat with
    | true =>
      have h1 : ltrim p (c :: s) = ltrim p s := by simp [ltrim, hc]
      rw [h1, trim_comm p s]
      by_cases h : rtrim p s = []
      · rw [if_pos h, if_pos rfl, h]
      · rw [if_neg h]; simp [ltrim, hc]
    | false =>
      have h1 : ltrim p (c :: s) = c :: s := by simp [ltrim, hc]
      rw [h1, rtrim_cons]
      by_cases h : rtrim p s = []
      · simp [h, hc, ltrim]
      · simp [h, hc, ltrim]
theorem blP_32 {c : UInt8} (h : c.toNat = 32) : blP c.toNat = true := by rw [h]; decide
theorem blP_9 {c : UInt8} (h : c.toNat = 9) : blP c.toNat = true := by rw [h]; decide
theorem blP_no {c : UInt8} (h : c.toNat ≠ 32) (h2 : c.toNat ≠ 9) : blP c.toNat = false := by simp [blP, inB, h, h2]

theorem good429 (s : List UInt8) (hs : s.length ≤ 1000000) : Good Go.Proofs.Tryz.prog 29 [.str s] (.str (trimS s)) := by
  refine good_go mix s429 (Nat.le_of_ble_eq_true rfl) fun e he => ?_
  have e0 : e 0 = .str s := he 0
  clear he
  simp only [c429,b429, oQ]
  simp -implicitDefEqProofs (disch := omega) only [↓ZD,ZP,cnd_t,cnd_f,↓reduceIte,Env.put,stepO,lenV,binV,binInt,unV,loadV,sliceV,boundOf,convV,slstrV,if_pos,if_neg,Int.reduceToNat,Nat.reducePow,V.cells,V.isCell,V.boxable,Nat.reduceEqDiff,reduceCtorEq,reduceIte,ite_self,enterEnv,e0]
  refine go_loop (fun m e H => ∃ t, m = t.length ∧ t.length ≤ s.length ∧ ltrim blP t = ltrim blP s ∧ e 0 = .str t) s.length ⟨s, rfl, Nat.le_refl _, rfl, by simp [Env.set, e0]⟩ ?_
  clear e0
  rintro m e H ⟨t, rfl, htl, htr, e0⟩
  have rest : ∀ (e' : Env) (H' : Heap) (t : List UInt8), t = ltrim blP s → e' 0 = .str t → True := fun _ _ _ _ _ => trivial
  cases t with
  | nil =>
    have hl : ltrim blP s = [] := by rw [← htr]; rfl
    simp -implicitDefEqProofs (disch := omega) only [↓ZD,ZP,cnd_t,cnd_f,↓reduceIte,Env.put,stepO,lenV,binV,binInt,unV,loadV,sliceV,boundOf,convV,slstrV,if_pos,if_neg,Int.reduceToNat,Nat.reducePow,V.cells,V.isCell,V.boxable,Nat.reduceEqDiff,reduceCtorEq,reduceIte,ite_self,enterEnv,e0]
    refine go_loop (fun m e H => e 0 = .str []) 0 (by simp [Env.set, e0]) ?_
    clear e0
    rintro m e H e0
    simp -implicitDefEqProofs (disch := omega) only [↓ZD,ZP,cnd_t,cnd_f,↓reduceIte,Env.put,stepO,lenV,binV,binInt,unV,loadV,sliceV,boundOf,convV,slstrV,if_pos,if_neg,Int.reduceToNat,Nat.reducePow,V.cells,V.isCell,V.boxable,Nat.reduceEqDiff,reduceCtorEq,reduceIte,ite_self,enterEnv,e0]
    exact gives_eq rfl (by rw [trimS, ← trim_comm, hl]; rfl)
  | cons c t =>
    simp only [List.length_cons] at htl
    have hz : (((t.length + 1 : Nat) : Int) - 1).toNat = t.length := by omega
    have htk : t.take t.length = t := List.take_length
    have hblank : (c.toNat = 32 ∨ (c.toNat ≠ 32 ∧ c.toNat = 9)) ∨ (c.toNat ≠ 32 ∧ c.toNat ≠ 9) := by omega
    rcases hblank with (h1 | ⟨h1, h2⟩) | ⟨h1, h2⟩
    · have hb := blP_32 h1
      simp -implicitDefEqProofs (disch := omega) only [↓ZD,ZP,cnd_t,cnd_f,↓reduceIte,Env.put,stepO,lenV,binV,binInt,unV,loadV,sliceV,boundOf,convV,slstrV,if_pos,if_neg,Int.reduceToNat,Nat.reducePow,V.cells,V.isCell,V.boxable,Nat.reduceEqDiff,reduceCtorEq,reduceIte,ite_self,enterEnv,e0,h1,fillL,evParts,splice,List.take_zero,List.take_succ_cons,List.drop_succ_cons,List.drop_zero,List.drop_nil,hz,htk]
      exact ⟨t.length, by omega, t, rfl, by omega, by rw [← htr]; simp [ltrim, hb], rfl⟩
    · have hb := blP_9 h2
      simp -implicitDefEqProofs (disch := omega) only [↓ZD,ZP,cnd_t,cnd_f,↓reduceIte,Env.put,stepO,lenV,binV,binInt,unV,loadV,sliceV,boundOf,convV,slstrV,if_pos,if_neg,Int.reduceToNat,Nat.reducePow,V.cells,V.isCell,V.boxable,Nat.reduceEqDiff,reduceCtorEq,reduceIte,ite_self,enterEnv,e0,h2,fillL,evParts,splice,List.take_zero,List.take_succ_cons,List.drop_succ_cons,List.drop_zero,List.drop_nil,hz,htk]
      exact ⟨t.length, by omega, t, rfl, by omega, by rw [← htr]; simp [ltrim, hb], rfl⟩
    · have hb := blP_no h1 h2
      have hl : ltrim blP s = c :: t := by rw [← htr]; simp [ltrim, hb]
      simp -implicitDefEqProofs (disch := omega) only [↓ZD,ZP,cnd_t,cnd_f,↓reduceIte,Env.put,stepO,lenV,binV,binInt,unV,loadV,sliceV,boundOf,convV,slstrV,if_pos,if_neg,Int.reduceToNat,Nat.reducePow,V.cells,V.isCell,V.boxable,Nat.reduceEqDiff,reduceCtorEq,reduceIte,ite_self,enterEnv,e0]
      refine go_loop (fun m e H => ∃ u, m = u.length ∧ u.length ≤ t.length + 1 ∧ rtrim blP u = rtrim blP (c :: t) ∧ e 0 = .str u) (t.length + 1) ⟨c :: t, rfl, Nat.le_refl _, rfl, by simp [Env.set, e0]⟩ ?_
      clear e0
      rintro m e H ⟨u, rfl, hul, hur, e0⟩
      rcases List.eq_nil_or_concat u with rfl | ⟨u, d, rfl⟩
      · simp -implicitDefEqProofs (disch := omega) only [↓ZD,ZP,cnd_t,cnd_f,↓reduceIte,Env.put,stepO,lenV,binV,binInt,unV,loadV,sliceV,boundOf,convV,slstrV,if_pos,if_neg,Int.reduceToNat,Nat.reducePow,V.cells,V.isCell,V.boxable,Nat.reduceEqDiff,reduceCtorEq,reduceIte,ite_self,enterEnv,e0]
        exact gives_eq rfl (by rw [trimS, ← trim_comm, hl, ← hur]; rfl)
      · rw [List.concat_eq_append] at *
        have hll : (u ++ [d]).length = u.length + 1 := by simp
        have hn1 : ((u.length + 1 : Nat) : Int) - 1 = ((u.length : Nat) : Int) := by omega
        have hat : (u ++ [d])[u.length]? = some d := by simp
        have htk : (u ++ [d]).take u.length = u := List.take_left
        have hz0 : (((u.length : Nat) : Int) - ((0 : Nat) : Int)).toNat = u.length := by omega
        rw [hll] at hul
        rw [rtrim_snoc] at hur
        generalize u ++ [d] = w at *
        have hblank : (d.toNat = 32 ∨ (d.toNat ≠ 32 ∧ d.toNat = 9)) ∨ (d.toNat ≠ 32 ∧ d.toNat ≠ 9) := by omega
        rcases hblank with (h1 | ⟨h1, h2⟩) | ⟨h1, h2⟩
        · rw [if_pos (blP_32 h1)] at hur
          simp -implicitDefEqProofs (disch := omega) only [↓ZD,ZP,cnd_t,cnd_f,↓reduceIte,Env.put,stepO,lenV,binV,binInt,unV,loadV,sliceV,boundOf,convV,slstrV,if_pos,if_neg,Int.reduceToNat,Nat.reducePow,V.cells,V.isCell,V.boxable,Nat.reduceEqDiff,reduceCtorEq,reduceIte,ite_self,enterEnv,e0,hll,hn1,hat,h1,htk,hz0,fillL,evParts,splice,List.take_zero,List.take_succ_cons,List.drop_succ_cons,List.drop_zero,List.drop_nil]
          exact ⟨u.length, by omega, u, rfl, by omega, hur, rfl⟩
        · rw [if_pos (blP_9 h2)] at hur
          simp -implicitDefEqProofs (disch := omega) only [↓ZD,ZP,cnd_t,cnd_f,↓reduceIte,Env.put,stepO,lenV,binV,binInt,unV,loadV,sliceV,boundOf,convV,slstrV,if_pos,if_neg,Int.reduceToNat,Nat.reducePow,V.cells,V.isCell,V.boxable,Nat.reduceEqDiff,reduceCtorEq,reduceIte,ite_self,enterEnv,e0,hll,hn1,hat,h2,htk,hz0,fillL,evParts,splice,List.take_zero,List.take_succ_cons,List.drop_succ_cons,List.drop_zero,List.drop_nil]
          exact ⟨u.length, by omega, u, rfl, by omega, hur, rfl⟩
        · rw [if_neg (by rw [blP_no h1 h2]; decide)] at hur
          simp -implicitDefEqProofs (disch := omega) only [↓ZD,ZP,cnd_t,cnd_f,↓reduceIte,Env.put,stepO,lenV,binV,binInt,unV,loadV,sliceV,boundOf,convV,slstrV,if_pos,if_neg,Int.reduceToNat,Nat.reducePow,V.cells,V.isCell,V.boxable,Nat.reduceEqDiff,reduceCtorEq,reduceIte,ite_self,enterEnv,e0,hll,hn1,hat]
          exact gives_eq rfl (by rw [trimS, ← trim_comm, hl, ← hur]; rfl)

/-! ### Where a line is cut, by the reference -/
def splitQ (rs : List Nat) : Nat → Nat → List Tk → List (List UInt8)
  | _, _, [] => []
  | fr, o, t :: ts =>
    if t.kind = 6 ∧ t.text = [123] then splitQ rs fr (o + 1) ts
    else if t.kind = 6 ∧ t.text = [125] ∧ 0 < o then splitQ rs fr (o - 1) ts
    else if t.kind = 6 ∧ t.text = diaB ∧ o = 0 then trimS (encs ((rs.drop fr).take (t.pos - fr))) :: splitQ rs (t.pos + 1) o ts
    else if t.kind = 0 then trimS (encs ((rs.drop fr).take (t.pos - fr))) :: splitQ rs fr o ts
    else splitQ rs fr o ts

/-- Tokens that are signs by their texts; the end only at the end. -/
inductive Shp : List Tk → Prop
  | last (i : Nat) : Shp [endT i]
  | cons {t : Tk} {ts : List Tk} : t.kind ≠ 0 → (t.text = [123] ∨ t.text = [125] ∨ t.text = diaB → t.kind = 6) → Shp ts → Shp (t :: ts)

theorem kind_tk (t : Tk) : kindOf t.L = t.kind := by simp [Tk.L, kindOf, tokC]
theorem at_tk2 (k : Nat) (t : List UInt8) (i : Nat) (a b : V) : atOf (tokC k t i a b) = i := by simp [atOf, tokC]
theorem at_tk (t : Tk) : atOf t.L = t.pos := by simp [Tk.L, atOf, tokC]
theorem splitQ_L (rs : List Nat) : ∀ {ts : List Tk}, Shp ts → ∀ (fr o : Nat), splitQ rs fr o ts = splitL rs fr o (ts.map Tk.L)
  | _, .last i, fr, o => by
    have h0 : (endT i).kind = 0 := rfl
    have ht : txtOf (endT i).L = [] := rfl
    rw [List.map_cons, List.map_nil, splitQ, splitL, h0, kind_tk, at_tk, h0, if_neg (by rintro ⟨h, _⟩; cases h), if_neg (by rintro ⟨h, _⟩; cases h), if_neg (by rintro ⟨h, _⟩; cases h), if_pos rfl, if_pos (.inl rfl), splitQ, splitL]
  | _, .cons h0 h6 hS, fr, o => by
    rename_i t ts
    have ih := splitQ_L rs hS
    have ht : txtOf t.L = t.text := rfl
    rw [List.map_cons, splitQ, splitL, kind_tk, at_tk, ht]
    by_cases c1 : t.text = [123]
    · rw [if_pos ⟨h6 (.inl c1), c1⟩, if_neg (by rintro (h | ⟨h, _⟩); exact h0 h; rw [c1] at h; exact absurd h (by decide)), if_pos c1, ih]
    · rw [if_neg (fun h => c1 h.2)]
      by_cases c2 : t.text = [125]
      · have k6 := h6 (.inr (.inl c2))
        rw [if_neg (c := t.kind = 0 ∨ t.text = diaB ∧ o = 0) (by rintro (h | ⟨h, _⟩); exact h0 h; rw [c2] at h; exact absurd h (by decide)), if_neg c1, if_pos c2]
        by_cases ho : 0 < o
        · rw [if_pos ⟨k6, c2, ho⟩, ih]
        · rw [if_neg (fun h => ho h.2.2), if_neg (by rintro ⟨_, h, _⟩; rw [c2] at h; exact absurd h (by decide)), if_neg h0, ih, show o - 1 = o by omega]
      · rw [if_neg (fun h => c2 h.2.1)]
        by_cases c3 : t.text = diaB ∧ o = 0
        · rw [if_pos ⟨h6 (.inr (.inr c3.1)), c3⟩, if_pos (.inr c3), ih]
        · rw [if_neg (fun h => c3 h.2), if_neg h0, if_neg (by rintro (h | h); exact h0 h; exact c3 h), if_neg c1, if_neg c2, ih]

theorem sign_kind {l : List Nat} {kind k : Nat} {a1 a2 : V} (hch : ∀ c ∈ l, charOK c) (h : tokenS l = .ok kind k a1 a2) (ht : encs (l.take k) = [123] ∨ encs (l.take k) = [125] ∨ encs (l.take k) = diaB) : kind = 6 := by
  have hk := tokenS_n h
  have hrn := rn_encs (l.take k) fun c hc => hch c (List.mem_of_mem_take hc)
  have key : ∀ c : Nat, l.take k = [c] → (¬ (isD c = true ∨ c = 175)) → c ≠ 39 → isL c = false → c ≠ 9109 → isP c = false → isS c = true → kind = 6 := by
    intro c hc h1 h2 h3 h4 h5 h6
    cases l with
    | nil => cases h
    | cons d r =>
      have hd : d = c := by
        cases k with
        | zero => omega
        | succ k => rw [List.take_succ_cons] at hc; exact (List.cons.inj hc).1
      subst hd
      rw [tokenS, if_neg h1, if_neg h2, if_neg (by rw [h3]; decide), if_neg h4, if_neg (by rw [h5]; decide), if_pos h6] at h
      simp only [TR.ok.injEq] at h
      exact h.1.symm
  rcases ht with ht | ht | ht <;> rw [ht] at hrn
  · exact key 123 hrn.symm (by decide) (by decide) (by decide) (by decide) (by kernel_rfl) (by kernel_rfl)
  · exact key 125 hrn.symm (by decide) (by decide) (by decide) (by decide) (by kernel_rfl) (by kernel_rfl)
  · exact key 8900 hrn.symm (by decide) (by decide) (by decide) (by decide) (by kernel_rfl) (by kernel_rfl)

theorem lexP_shp : ∀ (n i : Nat) (l : List Nat) (ts : List Tk), l.length < n → (∀ c ∈ l, charOK c) → lexP n i l = .ok ts → Shp ts
  | 0, i, l, ts, hn, _, h => by omega
  | n + 1, i, l, ts, hn, hch, h => by
    rw [lexP] at h
    have hdl := dw_len (p := blankC) l
    cases hdw : l.dropWhile blankC with
    | nil => rw [hdw] at h; cases h; exact .last _
    | cons c r =>
      rw [hdw] at h hdl
      simp only at h
      by_cases hc : c = 9053
      · rw [if_pos hc] at h; cases h; exact .last _
      · rw [if_neg hc] at h
        have hch' : ∀ x ∈ c :: r, charOK x := fun x hx => hch x (by
          have : l.takeWhile blankC ++ l.dropWhile blankC = l := List.takeWhile_append_dropWhile
          rw [← this, hdw]; exact List.mem_append_right _ hx)
        cases htok : tokenS (c :: r) with
        | err er => rw [htok] at h; cases h
        | ok kind k a1 a2 =>
          rw [htok] at h
          simp only at h
          have hk := tokenS_n htok
          have hd : ((c :: r).drop k).length = (c :: r).length - k := List.length_drop
          cases hrec : lexP n (i + (l.takeWhile blankC).length + k) ((c :: r).drop k) with
          | error x => rw [hrec] at h; cases h
          | ok ts1 =>
            rw [hrec] at h
            cases h
            have hkd := (tokenS_kind htok).1
            exact .cons (by show kind ≠ 0; omega) (sign_kind hch' htok) (lexP_shp n _ _ ts1 (by omega) (fun x hx => hch' x (List.mem_of_mem_drop hx)) hrec)

theorem append_box {H : Heap} {v : V} {O : List (List UInt8)} (h : StrAt H v O) (x : HObj) (T : List UInt8) (hl : O.length ≤ 100000) : ∃ v' H', appendV 1 16 (H ++ [x]) v (.sl true [.str T] 1) = some (v', H') ∧ StrAt H' v' (O ++ [T]) ∧ H'[H.length]? = some x ∧ H.length < H'.length := by
  rcases h with ⟨rfl, rfl⟩ | ⟨b, g, rfl, hb, hHb⟩
  · exact ⟨.view (H ++ [x]).length 0 0 1, H ++ [x] ++ [.cells 0 1 true (strL [T])], by simp [appendV, srcCells, readSl, strL], .inr ⟨(H ++ [x]).length, 0, rfl, by simp, by simp⟩, by simp, by simp⟩
  · have hil := strL_len O
    have q1 : O.length ≤ (strL O).length := by omega
    have q2 : (O.length + 1) * 16 ≤ 140737488355328 := by omega
    have q3 : O.length + 1 ≤ 9223372036854775807 := by omega
    have q4 : (strL O).take O.length = strL O := by rw [← hil, List.take_length]
    have q5 : strL (O ++ [T]) = strL O ++ [.str T] := by rw [strL_app]; rfl
    have hg : (H ++ [x])[b]? = some (.cells g 1 true (strL O)) := by rw [get_push hb]; exact hHb
    have hbl : b < (H ++ [x]).length := by simp; omega
    refine ⟨.view b (g + 1) 0 (O.length + 1), (H ++ [x]).set b (.cells (g + 1) 1 true (strL (O ++ [T]))), ?_, .inr ⟨b, g + 1, by simp, by rw [List.length_set]; exact hbl, List.getElem?_set_self hbl⟩, ?_, by simp⟩
    · rw [q5]
      generalize strL O = F at *
      simp [appendV, srcCells, readSl, hg, V.isCell, q1, q2, q3, q4]
    · rw [List.getElem?_set_ne (by omega)]; simp
theorem strAt_push {H : Heap} {v : V} {O : List (List UInt8)} (h : StrAt H v O) (x : HObj) : StrAt (H ++ [x]) v O := by
  rcases h with h | ⟨b, g, h1, h2, h3⟩
  · exact .inl h
  · exact .inr ⟨b, g, h1, by simp; omega, by rw [get_push h2]; exact h3⟩

def splitQR (s : List UInt8) : V :=
  if 1024 < s.length then .tup [.sl false [] 0, .int .i64 25, .int .i64 0]
  else match bad s with
    | some i => .tup [.sl false [] 0, .int .i64 26, .int .i64 (i : Nat)]
    | none => match lexT 0 (rn s) with
      | .error (e, j) => .tup [.sl false [] 0, .int .i64 (e : Nat), .int .i64 (j : Nat)]
      | .ok ts => .tup [ssl (splitQ (rn s) 0 0 ts), .int .i64 0, .int .i64 0]

set_option maxHeartbeats 4000000 in
theorem split_walk (s : List UInt8) (ts : List Tk) (hsl : s.length ≤ 1024) (hbad : bad s = none) (hall : allQ s = .tup [.sl false (ts.map Tk.R).flatten ts.length, .int .i64 0, .int .i64 0]) (hok : ∀ t ∈ ts, t.OK) (hn : ts.length ≤ 1025) (htoks : Toks (rn s).length 0 (ts.map Tk.L)) :
    Good Go.Proofs.Tryz.prog 15 [.str s] (.tup [ssl (splitQ (rn s) 0 0 ts), .int .i64 0, .int .i64 0]) := by
  refine good_go mix s415 (Nat.le_of_ble_eq_true rfl) fun e he => ?_
  have e0 : e 0 = .str s := he 0
  clear he
  have h8 := good408 s
  rw [hall] at h8
  obtain ⟨r1, r2⟩ := ok_ro ts hok
  have hg := good207 s (by omega)
  rw [runesR, hbad] at hg
  have hrl := rn_len s
  simp only [c415,b415, oQ]
  simp -implicitDefEqProofs (disch := omega) only [↓ZD,ZP,cnd_t,cnd_f,↓reduceIte,Env.put,stepO,lenV,binV,binInt,unV,loadV,sliceV,boundOf,convV,slstrV,if_pos,if_neg,Int.reduceToNat,Nat.reducePow,V.cells,V.isCell,V.boxable,Nat.reduceEqDiff,reduceCtorEq,reduceIte,ite_self,enterEnv,e0]
  refine calP_ro rfl h8 (by simp [V.ro, roL, r2]) ?_
  simp -implicitDefEqProofs (disch := omega) only [↓ZD,ZP,cnd_t,cnd_f,↓reduceIte,Env.put,stepO,lenV,binV,binInt,unV,loadV,sliceV,boundOf,convV,slstrV,if_pos,if_neg,Int.reduceToNat,Nat.reducePow,V.cells,V.isCell,V.boxable,Nat.reduceEqDiff,reduceCtorEq,reduceIte,ite_self,enterEnv,e0,bne_self_eq_false]
  refine calP_ro rfl hg (by simp [V.ro, roL, rsl, rl_ro]) ?_
  obtain ⟨J, hJ⟩ : ∃ J, J = ts.map Tk.R := ⟨_, rfl⟩
  have hJf : J.flatten.length = ts.length * 5 := by rw [hJ]; exact tkR_len ts
  rw [← hJ]
  generalize rn s = rs at *
  simp -implicitDefEqProofs (disch := omega) only [↓ZD,ZP,cnd_t,cnd_f,↓reduceIte,Env.put,stepO,lenV,binV,binInt,unV,loadV,sliceV,boundOf,convV,slstrV,if_pos,if_neg,Int.reduceToNat,Nat.reducePow,V.cells,V.isCell,V.boxable,Nat.reduceEqDiff,reduceCtorEq,reduceIte,ite_self,enterEnv,e0,bne_self_eq_false,rsl]
  refine go_loop (fun m e H => ∃ A Z fr g o out v, ts = A ++ Z ∧ m = Z.length ∧ fr ≤ g ∧ Toks rs.length g (Z.map Tk.L) ∧ StrAt H v out ∧ out.length ≤ A.length ∧ o ≤ A.length ∧ splitQ rs 0 0 ts = out ++ splitQ rs fr o Z ∧
      e 5 = .sl false J.flatten ts.length ∧ e 8 = .sl false (rl rs) rs.length ∧ e 11 = v ∧ e 12 = .int .i64 (fr : Nat) ∧ e 13 = .int .i64 (o : Nat) ∧ e 14 = .int .i64 (A.length : Nat)) ts.length
    ⟨[], ts, 0, 0, 0, [], _, rfl, rfl, Nat.le_refl _, htoks, .inl ⟨rfl, rfl⟩, Nat.le_refl _, Nat.le_refl _, rfl, ?_, ?_, ?_, ?_, ?_, ?_⟩ ?_
  · simp [Env.set]
  · simp [Env.set]
  · simp [Env.set]
  · simp [Env.set]
  · simp [Env.set]
  · simp [Env.set]
  clear e0
  rintro m e H ⟨A, Z, fr, g, o, out, v, hAZ, rfl, hfg, hZ, hout, hol, hoA, hspl, e5, e8, e11, e12, e13, e14⟩
  have hAl : ts.length = A.length + Z.length := by rw [hAZ]; simp
  cases Z with
  | nil =>
    simp only [List.length_nil,Nat.add_zero] at hAl
    have hspl' : splitQ rs 0 0 ts = out := by rw [hspl, splitQ, List.append_nil]
    rw [hspl']
    rcases hout with ⟨rfl, rfl⟩ | ⟨b, g, rfl, hbl, hb⟩
    · simp -implicitDefEqProofs (disch := omega) only [↓ZD,ZP,cnd_t,cnd_f,↓reduceIte,Env.put,stepO,lenV,binV,binInt,unV,loadV,sliceV,boundOf,convV,slstrV,if_pos,if_neg,Int.reduceToNat,Nat.reducePow,V.cells,V.isCell,V.boxable,Nat.reduceEqDiff,reduceCtorEq,reduceIte,ite_self,enterEnv,e5,e8,e11,e12,e13,e14,hAl]
      exact gives_eq rfl rfl
    · have htake : (strL out).take out.length = strL out := by rw [← strL_len out, List.take_length]
      simp -implicitDefEqProofs (disch := omega) only [↓ZD,ZP,cnd_t,cnd_f,↓reduceIte,Env.put,stepO,lenV,binV,binInt,unV,loadV,sliceV,boundOf,convV,slstrV,if_pos,if_neg,Int.reduceToNat,Nat.reducePow,V.cells,V.isCell,V.boxable,Nat.reduceEqDiff,reduceCtorEq,reduceIte,ite_self,enterEnv,e5,e8,e11,e12,e13,e14,hAl]
      refine gives_lend 1 (v' := .tup [ssl out, .int .i64 0, .int .i64 0]) ?_ (by simp [V.ro, roL, ssl, strL_ro]) rfl
      simp only [lend1,borL,bor,hb,if_true,List.drop_zero,Nat.mul_one,htake,ssl]
  | cons t Z =>
    simp only [List.length_cons] at hAl
    have hB5 : ∀ x ∈ A.map Tk.R, x.length = 5 := fun x hx => by obtain ⟨c, _, rfl⟩ := List.mem_map.1 hx; rfl
    have hJ2 : J = A.map Tk.R ++ [.int .i64 (t.kind : Nat), .str t.text, .int .i64 (t.pos : Nat), t.b1, t.b2] :: Z.map Tk.R := by rw [hJ, hAZ, List.map_append]; rfl
    have hd5 : (J.flatten.drop (A.length * 5)).take 5 = [.int .i64 (t.kind : Nat), .str t.text, .int .i64 (t.pos : Nat), t.b1, t.b2] := by
      rw [hJ2, ← List.length_map (f := Tk.R), flat5_drop hB5]; rfl
    obtain ⟨hpos1, hpos2, hZ'⟩ : g ≤ t.pos ∧ t.pos ≤ rs.length ∧ Toks rs.length (t.pos + 1) (Z.map Tk.L) := by
      rw [List.map_cons] at hZ
      generalize hL : t.L = tl at hZ
      cases hZ with
      | cons h1 h2 h3 h4 h5 h6 =>
        have h := congrArg atOf hL
        rw [at_tk, at_tk2] at h
        rw [h]
        exact ⟨h1, h2, h6⟩
    obtain ⟨s1, l1, n1, s2, l2, n2, hb1, hb2⟩ : ∃ s1 l1 n1 s2 l2 n2, t.b1 = .sl s1 l1 n1 ∧ t.b2 = .sl s2 l2 n2 := by
      obtain ⟨_, _, _, _, _, _, _, _, _, _, _, h, _⟩ := hok t (by rw [hAZ]; simp)
      simp only [arrB,V.agg.injEq,List.cons.injEq] at h
      exact ⟨_, _, _, _, _, _, h.1, h.2.1⟩
    rw [hb1, hb2] at hd5
    have hnext : ts = (A ++ [t]) ++ Z := by rw [hAZ]; simp
    have hq1 : ∀ n, n ≤ A.length + 1 → n ≤ (A ++ [t]).length := fun n h => by simp; omega
    have hq2 : V.int .i64 ((A.length + 1 : Nat) : Int) = .int .i64 (((A ++ [t]).length : Nat) : Int) := by simp
    rw [splitQ] at hspl
    have hsub : ((t.pos : Int) - (fr : Int)).toNat = t.pos - fr := by omega
    have htl : (rl ((rs.drop fr).take (t.pos - fr))).length = t.pos - fr := by rw [rl_len, List.length_take, List.length_drop]; omega
    have htl2 : ((rs.drop fr).take (t.pos - fr)).length = t.pos - fr := by rw [List.length_take, List.length_drop]; omega
    have htr := good429 (encs ((rs.drop fr).take (t.pos - fr))) (by
      have h := encs_len ((rs.drop fr).take (t.pos - fr))
      rw [htl2] at h
      omega)
    have hbox := strAt_push hout (.cells 0 0 true [.int .i64 (t.kind : Nat), .str t.text, .int .i64 (t.pos : Nat), .sl s1 l1 n1, .sl s2 l2 n2])
    generalize hT : trimS (encs ((rs.drop fr).take (t.pos - fr))) = T at htr hspl
    obtain ⟨v', H', happ, hout', hkeep, hkl⟩ := append_box hout (.cells 0 0 true [.int .i64 (t.kind : Nat), .str t.text, .int .i64 (t.pos : Nat), .sl s1 l1 n1, .sl s2 l2 n2]) T (by omega)
    have hpl : fr ≤ t.pos := by omega
    clear hT hok hall hJ hJ2 hB5 hZ hb1 hb2
    generalize t.kind = kind at *
    generalize t.text = text at *
    generalize t.pos = pos at *
    have hdb : diaB = [226, 139, 132] := rfl
    by_cases hk6 : kind = 6
    · subst hk6
      cases hd1 : (text == ([123] : List UInt8)) with
      | true =>
        rw [if_pos ⟨rfl, by simpa using hd1⟩] at hspl
        simp -implicitDefEqProofs (disch := (first | omega | (simp only [List.length_append,List.length_set,List.length_cons,List.length_nil]; try omega; done))) only [↓ZD,ZP,ZL,cnd_t,cnd_f,↓reduceIte,Env.put,stepO,lenV,binV,binInt,unV,loadV,sliceV,boundOf,convV,slstrV,if_pos,if_neg,Int.reduceToNat,Nat.reducePow,V.cells,V.isCell,V.boxable,Nat.reduceEqDiff,reduceCtorEq,reduceIte,ite_self,enterEnv,e5,e8,e11,e12,e13,e14,hd5,hJf,fillL,evParts,splice,List.take_zero,List.take_succ_cons,List.drop_succ_cons,List.drop_zero,List.drop_nil,loadV,binStr,hd1]
        exact ⟨Z.length, by omega, _, Z, fr, pos + 1, o + 1, out, v, hnext, rfl, by omega, hZ', hbox, hq1 _ (by omega), hq1 _ (by omega), hspl, rfl, rfl, rfl, hq2⟩
      | false =>
        rw [if_neg (fun h => by rw [h.2] at hd1; exact absurd hd1 (by decide))] at hspl
        cases hd2 : (text == ([125] : List UInt8)) with
        | true =>
          have htx : text = [125] := by simpa using hd2
          have hd3 : (text == ([226, 139, 132] : List UInt8)) = false := by rw [htx]; rfl
          by_cases ho : 0 < o
          · rw [if_pos ⟨rfl, htx, ho⟩] at hspl
            have hsb : ((o : Nat) : Int) - 1 = ((o - 1 : Nat) : Int) := by omega
            simp -implicitDefEqProofs (disch := (first | omega | (simp only [List.length_append,List.length_set,List.length_cons,List.length_nil]; try omega; done))) only [↓ZD,ZP,ZL,cnd_t,cnd_f,↓reduceIte,Env.put,stepO,lenV,binV,binInt,unV,loadV,sliceV,boundOf,convV,slstrV,if_pos,if_neg,Int.reduceToNat,Nat.reducePow,V.cells,V.isCell,V.boxable,Nat.reduceEqDiff,reduceCtorEq,reduceIte,ite_self,enterEnv,e5,e8,e11,e12,e13,e14,hd5,hJf,fillL,evParts,splice,List.take_zero,List.take_succ_cons,List.drop_succ_cons,List.drop_zero,List.drop_nil,loadV,binStr,hd1,hd2,hsb]
            exact ⟨Z.length, by omega, _, Z, fr, pos + 1, o - 1, out, v, hnext, rfl, by omega, hZ', hbox, hq1 _ (by omega), hq1 _ (by omega), hspl, rfl, rfl, rfl, hq2⟩
          · rw [if_neg (fun h => ho h.2.2), if_neg (fun h => by rw [htx] at h; exact absurd h.2.1 (by decide)), if_neg (by decide)] at hspl
            simp -implicitDefEqProofs (disch := (first | omega | (simp only [List.length_append,List.length_set,List.length_cons,List.length_nil]; try omega; done))) only [↓ZD,ZP,ZL,cnd_t,cnd_f,↓reduceIte,Env.put,stepO,lenV,binV,binInt,unV,loadV,sliceV,boundOf,convV,slstrV,if_pos,if_neg,Int.reduceToNat,Nat.reducePow,V.cells,V.isCell,V.boxable,Nat.reduceEqDiff,reduceCtorEq,reduceIte,ite_self,enterEnv,e5,e8,e11,e12,e13,e14,hd5,hJf,fillL,evParts,splice,List.take_zero,List.take_succ_cons,List.drop_succ_cons,List.drop_zero,List.drop_nil,loadV,binStr,hd1,hd2,hd3]
            exact ⟨Z.length, by omega, _, Z, fr, pos + 1, o, out, v, hnext, rfl, by omega, hZ', hbox, hq1 _ (by omega), hq1 _ (by omega), hspl, rfl, rfl, rfl, hq2⟩
        | false =>
          rw [if_neg (fun h => by rw [h.2.1] at hd2; exact absurd hd2 (by decide))] at hspl
          cases hd3 : (text == ([226, 139, 132] : List UInt8)) with
          | true =>
            by_cases ho : o = 0
            · rw [if_pos ⟨rfl, by rw [hdb]; simpa using hd3, ho⟩] at hspl
              have hspl' : splitQ rs 0 0 ts = (out ++ [T]) ++ splitQ rs (pos + 1) o Z := by rw [hspl]; simp
              simp -implicitDefEqProofs (disch := (first | omega | (simp only [List.length_append,List.length_set,List.length_cons,List.length_nil]; try omega; done))) only [↓ZD,ZP,ZL,cnd_t,cnd_f,↓reduceIte,Env.put,stepO,lenV,binV,binInt,unV,loadV,sliceV,boundOf,convV,slstrV,if_pos,if_neg,Int.reduceToNat,Nat.reducePow,V.cells,V.isCell,V.boxable,Nat.reduceEqDiff,reduceCtorEq,reduceIte,ite_self,enterEnv,e5,e8,e11,e12,e13,e14,hd5,hJf,fillL,evParts,splice,List.take_zero,List.take_succ_cons,List.drop_succ_cons,List.drop_zero,List.drop_nil,loadV,binStr,hd1,hd2,hd3,rl_len,slice_rl,convV,readSl,runesOf_rl,htl,hsub]
              refine calP_ro rfl htr rfl ?_
              simp -implicitDefEqProofs (disch := (first | omega | (simp only [List.length_append,List.length_set,List.length_cons,List.length_nil]; try omega; done))) only [↓ZD,ZP,ZL,cnd_t,cnd_f,↓reduceIte,Env.put,stepO,lenV,binV,binInt,unV,loadV,sliceV,boundOf,convV,slstrV,if_pos,if_neg,Int.reduceToNat,Nat.reducePow,V.cells,V.isCell,V.boxable,Nat.reduceEqDiff,reduceCtorEq,reduceIte,ite_self,enterEnv,e5,e8,e11,e12,e13,e14,hd5,hJf,fillL,evParts,splice,List.take_zero,List.take_succ_cons,List.drop_succ_cons,List.drop_zero,List.drop_nil,loadV,happ,hkeep]
              exact ⟨Z.length, by omega, _, Z, pos + 1, pos + 1, o, out ++ [T], v', hnext, rfl, Nat.le_refl _, hZ', hout', hq1 _ (by simp; omega), hq1 _ (by omega), hspl', rfl, rfl, rfl, hq2⟩
            · rw [if_neg (fun h => ho h.2.2), if_neg (by decide)] at hspl
              simp -implicitDefEqProofs (disch := (first | omega | (simp only [List.length_append,List.length_set,List.length_cons,List.length_nil]; try omega; done))) only [↓ZD,ZP,ZL,cnd_t,cnd_f,↓reduceIte,Env.put,stepO,lenV,binV,binInt,unV,loadV,sliceV,boundOf,convV,slstrV,if_pos,if_neg,Int.reduceToNat,Nat.reducePow,V.cells,V.isCell,V.boxable,Nat.reduceEqDiff,reduceCtorEq,reduceIte,ite_self,enterEnv,e5,e8,e11,e12,e13,e14,hd5,hJf,fillL,evParts,splice,List.take_zero,List.take_succ_cons,List.drop_succ_cons,List.drop_zero,List.drop_nil,loadV,binStr,hd1,hd2,hd3]
              exact ⟨Z.length, by omega, _, Z, fr, pos + 1, o, out, v, hnext, rfl, by omega, hZ', hbox, hq1 _ (by omega), hq1 _ (by omega), hspl, rfl, rfl, rfl, hq2⟩
          | false =>
            rw [if_neg (fun h => by rw [h.2.1] at hd3; exact absurd hd3 (by decide)), if_neg (by decide)] at hspl
            simp -implicitDefEqProofs (disch := (first | omega | (simp only [List.length_append,List.length_set,List.length_cons,List.length_nil]; try omega; done))) only [↓ZD,ZP,ZL,cnd_t,cnd_f,↓reduceIte,Env.put,stepO,lenV,binV,binInt,unV,loadV,sliceV,boundOf,convV,slstrV,if_pos,if_neg,Int.reduceToNat,Nat.reducePow,V.cells,V.isCell,V.boxable,Nat.reduceEqDiff,reduceCtorEq,reduceIte,ite_self,enterEnv,e5,e8,e11,e12,e13,e14,hd5,hJf,fillL,evParts,splice,List.take_zero,List.take_succ_cons,List.drop_succ_cons,List.drop_zero,List.drop_nil,loadV,binStr,hd1,hd2,hd3]
            exact ⟨Z.length, by omega, _, Z, fr, pos + 1, o, out, v, hnext, rfl, by omega, hZ', hbox, hq1 _ (by omega), hq1 _ (by omega), hspl, rfl, rfl, rfl, hq2⟩
    · rw [if_neg (fun h => hk6 h.1), if_neg (fun h => hk6 h.1), if_neg (fun h => hk6 h.1)] at hspl
      by_cases hk0 : kind = 0
      · subst hk0
        rw [if_pos rfl] at hspl
        have hspl' : splitQ rs 0 0 ts = (out ++ [T]) ++ splitQ rs fr o Z := by rw [hspl]; simp
        simp -implicitDefEqProofs (disch := (first | omega | (simp only [List.length_append,List.length_set,List.length_cons,List.length_nil]; try omega; done))) only [↓ZD,ZP,ZL,cnd_t,cnd_f,↓reduceIte,Env.put,stepO,lenV,binV,binInt,unV,loadV,sliceV,boundOf,convV,slstrV,if_pos,if_neg,Int.reduceToNat,Nat.reducePow,V.cells,V.isCell,V.boxable,Nat.reduceEqDiff,reduceCtorEq,reduceIte,ite_self,enterEnv,e5,e8,e11,e12,e13,e14,hd5,hJf,fillL,evParts,splice,List.take_zero,List.take_succ_cons,List.drop_succ_cons,List.drop_zero,List.drop_nil,loadV,binStr,rl_len,slice_rl,convV,readSl,runesOf_rl,htl,hsub]
        refine calP_ro rfl htr rfl ?_
        simp -implicitDefEqProofs (disch := (first | omega | (simp only [List.length_append,List.length_set,List.length_cons,List.length_nil]; try omega; done))) only [↓ZD,ZP,ZL,cnd_t,cnd_f,↓reduceIte,Env.put,stepO,lenV,binV,binInt,unV,loadV,sliceV,boundOf,convV,slstrV,if_pos,if_neg,Int.reduceToNat,Nat.reducePow,V.cells,V.isCell,V.boxable,Nat.reduceEqDiff,reduceCtorEq,reduceIte,ite_self,enterEnv,e5,e8,e11,e12,e13,e14,hd5,hJf,fillL,evParts,splice,List.take_zero,List.take_succ_cons,List.drop_succ_cons,List.drop_zero,List.drop_nil,loadV,happ,hkeep]
        exact ⟨Z.length, by omega, _, Z, fr, pos + 1, o, out ++ [T], v', hnext, rfl, by omega, hZ', hout', hq1 _ (by simp; omega), hq1 _ (by omega), hspl', rfl, rfl, rfl, hq2⟩
      · rw [if_neg hk0] at hspl
        simp -implicitDefEqProofs (disch := (first | omega | (simp only [List.length_append,List.length_set,List.length_cons,List.length_nil]; try omega; done))) only [↓ZD,ZP,ZL,cnd_t,cnd_f,↓reduceIte,Env.put,stepO,lenV,binV,binInt,unV,loadV,sliceV,boundOf,convV,slstrV,if_pos,if_neg,Int.reduceToNat,Nat.reducePow,V.cells,V.isCell,V.boxable,Nat.reduceEqDiff,reduceCtorEq,reduceIte,ite_self,enterEnv,e5,e8,e11,e12,e13,e14,hd5,hJf,fillL,evParts,splice,List.take_zero,List.take_succ_cons,List.drop_succ_cons,List.drop_zero,List.drop_nil,loadV,binStr]
        exact ⟨Z.length, by omega, _, Z, fr, pos + 1, o, out, v, hnext, rfl, by omega, hZ', hbox, hq1 _ (by omega), hq1 _ (by omega), hspl, rfl, rfl, rfl, hq2⟩

theorem good415 (s : List UInt8) : Good Go.Proofs.Tryz.prog 15 [.str s] (splitR s) := by
  have hL := lexL_P ((rn s).length + 1) 0 (rn s)
  rcases both_cases s with ⟨er, j, hne, h1, h2⟩ | ⟨ts, hl, hb, hP, hok, hn, h1, h2⟩
  · have hsp : splitR s = .tup [.sl false [] 0, .int .i64 (er : Nat), .int .i64 (j : Nat)] := by
      rw [← h1]
      unfold splitR allR
      split
      · rfl
      · rename_i hl
        rw [allR, if_neg hl] at h1
        cases hb : bad s with
        | some i => rfl
        | none =>
          rw [hb] at h1
          simp only at h1 ⊢
          cases hx : lexL ((rn s).length + 1) 0 (rn s) with
          | error x => rfl
          | ok ts =>
            rw [hx] at h1
            simp only [V.tup.injEq,List.cons.injEq,V.int.injEq] at h1
            have := h1.2.1.2
            omega
    rw [hsp]
    have h8 := good408 s
    rw [h2] at h8
    refine good_go mix s415 (Nat.le_of_ble_eq_true rfl) fun e he => ?_
    have e0 : e 0 = .str s := he 0
    clear he
    simp only [c415,b415, oQ]
    simp -implicitDefEqProofs (disch := omega) only [↓ZD,ZP,cnd_t,cnd_f,↓reduceIte,Env.put,stepO,lenV,binV,binInt,unV,loadV,sliceV,boundOf,convV,slstrV,if_pos,if_neg,Int.reduceToNat,Nat.reducePow,V.cells,V.isCell,V.boxable,Nat.reduceEqDiff,reduceCtorEq,reduceIte,ite_self,enterEnv,e0]
    refine calP_ro rfl h8 rfl ?_
    simp -implicitDefEqProofs (disch := omega) only [↓ZD,ZP,cnd_t,cnd_f,↓reduceIte,Env.put,stepO,lenV,binV,binInt,unV,loadV,sliceV,boundOf,convV,slstrV,if_pos,if_neg,Int.reduceToNat,Nat.reducePow,V.cells,V.isCell,V.boxable,Nat.reduceEqDiff,reduceCtorEq,reduceIte,ite_self,enterEnv,e0]
    exact gives_eq rfl rfl
  · rw [hP] at hL
    simp only at hL
    have hrl := rn_len s
    have hsp : splitR s = .tup [ssl (splitQ (rn s) 0 0 ts), .int .i64 0, .int .i64 0] := by
      rw [splitR, if_neg (by omega), hb]
      simp only [hL]
      rw [splitQ_L _ (lexP_shp ((rn s).length + 1) 0 (rn s) ts (by omega) (fun c hc => rn_ok s.length s c hc) hP)]
    rw [hsp]
    exact split_walk s ts hl hb h2 hok hn (toks_of_lex _ 0 (rn s) _ (by omega) hL)

theorem good405 (s : List UInt8) : Good Go.Proofs.Tryz.prog 5 [.str s] (.bool true) := by
  have ha := good213 s
  have hb := good415 s
  refine good_go mix s405 (Nat.le_of_ble_eq_true rfl) fun e he => ?_
  have e0 : e 0 = .str s := he 0
  clear he
  simp only [c405,b405, oQ]
  have hro : (splitR s).ro = true ∧ ∃ (L : List (List UInt8)) (er j : Nat), L.length ≤ 100000 ∧ splitR s = .tup [ssl L, .int .i64 (er : Nat), .int .i64 (j : Nat)] := by
    unfold splitR
    split
    · exact ⟨rfl, [], 25, 0, by simp, rfl⟩
    · split
      · exact ⟨rfl, [], 26, _, by simp, rfl⟩
      · split
        · exact ⟨rfl, [], _, _, by simp, rfl⟩
        · rename_i ts hx
          have hrl := rn_len s
          have htk := toks_of_lex _ 0 (rn s) ts (N := (rn s).length) (by omega) hx
          have hlen := htk.ro.2.2
          have hsl : ∀ (ts : List (List V)) (fr o : Nat), (splitL (rn s) fr o ts).length ≤ ts.length := by
            intro ts
            induction ts with
            | nil => intro fr o; rw [splitL]; simp
            | cons t ts ih =>
              intro fr o
              rw [splitL]
              repeat' split
              all_goals first
                | (have := ih (atOf t + 1) o; simp only [List.length_cons]; omega)
                | (have := ih fr (o + 1); simp only [List.length_cons]; omega)
                | (have := ih fr (o - 1); simp only [List.length_cons]; omega)
                | (have := ih fr o; simp only [List.length_cons]; omega)
          exact ⟨by simp [V.ro, roL, ssl, strL_ro], _, 0, 0, Nat.le_trans (hsl ts 0 0) (by omega), rfl⟩
  obtain ⟨hro, L, er, j, hLl, hr⟩ := hro
  rw [hr] at ha hb hro
  simp -implicitDefEqProofs (disch := omega) only [↓ZD,ZP,cnd_t,cnd_f,↓reduceIte,Env.put,stepO,lenV,binV,binInt,unV,loadV,sliceV,boundOf,convV,slstrV,if_pos,if_neg,Int.reduceToNat,Nat.reducePow,V.cells,V.isCell,V.boxable,Nat.reduceEqDiff,reduceCtorEq,reduceIte,ite_self,enterEnv,e0]
  refine calP_ro (str_ro _) ha hro ?_
  simp -implicitDefEqProofs (disch := omega) only [↓ZD,ZP,cnd_t,cnd_f,↓reduceIte,Env.put,stepO,lenV,binV,binInt,unV,loadV,sliceV,boundOf,convV,slstrV,if_pos,if_neg,Int.reduceToNat,Nat.reducePow,V.cells,V.isCell,V.boxable,Nat.reduceEqDiff,reduceCtorEq,reduceIte,ite_self,enterEnv,e0,ssl]
  refine calP_ro (str_ro _) hb hro ?_
  simp -implicitDefEqProofs (disch := omega) only [↓ZD,ZP,cnd_t,cnd_f,↓reduceIte,Env.put,stepO,lenV,binV,binInt,unV,loadV,sliceV,boundOf,convV,slstrV,if_pos,if_neg,Int.reduceToNat,Nat.reducePow,V.cells,V.isCell,V.boxable,Nat.reduceEqDiff,reduceCtorEq,reduceIte,ite_self,enterEnv,e0,ssl]
  refine calP_ro rfl good6 rfl ?_
  simp -implicitDefEqProofs (disch := omega) only [↓ZD,ZP,cnd_t,cnd_f,↓reduceIte,Env.put,stepO,lenV,binV,binInt,unV,loadV,sliceV,boundOf,convV,slstrV,if_pos,if_neg,Int.reduceToNat,Nat.reducePow,V.cells,V.isCell,V.boxable,Nat.reduceEqDiff,reduceCtorEq,reduceIte,ite_self,enterEnv,e0,ssl,bne_self_eq_false]
  refine go_loop (fun m e H => ∃ i : Nat, i ≤ L.length ∧ m = L.length - i ∧ e 3 = .sl false (strL L) L.length ∧ e 6 = .sl false (strL L) L.length ∧ e 9 = .int .i64 (i : Nat))
    L.length ⟨0, by omega, rfl, ?_, ?_, ?_⟩ ?_
  · simp [Env.set]
  · simp [Env.set]
  · simp [Env.set]
  clear e0
  rintro m e H ⟨i, hi, rfl, e3, e6, e9⟩
  rcases Nat.lt_or_ge i L.length with hlt | hge
  · have hat := strL_get (List.getElem?_eq_getElem hlt)
    simp -implicitDefEqProofs (disch := omega) only [↓ZD,ZP,cnd_t,cnd_f,↓reduceIte,Env.put,stepO,lenV,binV,binInt,unV,loadV,sliceV,boundOf,convV,slstrV,if_pos,if_neg,Int.reduceToNat,Nat.reducePow,V.cells,V.isCell,V.boxable,Nat.reduceEqDiff,reduceCtorEq,reduceIte,ite_self,enterEnv,e3,e6,e9,hat,binStr,bne_self_eq_false]
    exact ⟨_, by omega, i + 1, by omega, rfl, rfl⟩
  · simp -implicitDefEqProofs (disch := omega) only [↓ZD,ZP,cnd_t,cnd_f,↓reduceIte,Env.put,stepO,lenV,binV,binInt,unV,loadV,sliceV,boundOf,convV,slstrV,if_pos,if_neg,Int.reduceToNat,Nat.reducePow,V.cells,V.isCell,V.boxable,Nat.reduceEqDiff,reduceCtorEq,reduceIte,ite_self,enterEnv,e3,e6,e9]
    exact gives_eq rfl rfl
end Fe
open Go Go.Proofs
namespace Fe
theorem gFirst : Go.Proofs.Tryz.prog.globalNamed "unicode/utf8.first" = some 0 := by kernel_rfl
theorem gAcc : Go.Proofs.Tryz.prog.globalNamed "unicode/utf8.acceptRanges" = some 1 := by kernel_rfl
theorem yFirst : (Go.Proofs.Tryz.prog.globals[0]?).map (·.type) = some 141 := by kernel_rfl
theorem yAcc : (Go.Proofs.Tryz.prog.globals[1]?).map (·.type) = some 145 := by kernel_rfl
theorem uFirst : Go.Proofs.Tryz.prog.underlying 141 = some (.array 256 5) := by kernel_rfl
theorem uAcc : Go.Proofs.Tryz.prog.underlying 145 = some (.array 16 144) := by kernel_rfl
theorem uRow : Go.Proofs.Tryz.prog.underlying 144 = some (.struct #[{ name := "lo", type := 5, offset := 0, embedded := false, tag := "", pkgPath := "unicode/utf8", byteOffset := 0 }, { name := "hi", type := 5, offset := 1, embedded := false, tag := "", pkgPath := "unicode/utf8", byteOffset := 1 }]) := by kernel_rfl
theorem uByte : Go.Proofs.Tryz.prog.underlying 5 = some (.int .u8) := by kernel_rfl
theorem cByte : Go.Proofs.Tryz.prog.cellsOf 5 = 1 := by kernel_rfl
theorem cFirst : Go.Proofs.Tryz.prog.cellsOf 141 = 256 := by kernel_rfl
theorem cRow : Go.Proofs.Tryz.prog.cellsOf 144 = 2 := by kernel_rfl

def accD : List (DataW Unit) := [.agg [.lit (.int .u8 128), .lit (.int .u8 191)], .agg [.lit (.int .u8 160), .lit (.int .u8 191)], .agg [.lit (.int .u8 128), .lit (.int .u8 159)], .agg [.lit (.int .u8 144), .lit (.int .u8 191)], .agg [.lit (.int .u8 128), .lit (.int .u8 143)], .agg [.lit (.int .u8 0), .lit (.int .u8 0)], .agg [.lit (.int .u8 0), .lit (.int .u8 0)], .agg [.lit (.int .u8 0), .lit (.int .u8 0)], .agg [.lit (.int .u8 0), .lit (.int .u8 0)], .agg [.lit (.int .u8 0), .lit (.int .u8 0)], .agg [.lit (.int .u8 0), .lit (.int .u8 0)], .agg [.lit (.int .u8 0), .lit (.int .u8 0)], .agg [.lit (.int .u8 0), .lit (.int .u8 0)], .agg [.lit (.int .u8 0), .lit (.int .u8 0)], .agg [.lit (.int .u8 0), .lit (.int .u8 0)], .agg [.lit (.int .u8 0), .lit (.int .u8 0)]]
theorem accD_at : ∀ i, i < 16 → accD[i]? = some (.agg ([((acceptL.getD (2 * i) 0 : Nat) : Int), ((acceptL.getD (2 * i + 1) 0 : Nat) : Int)].map fun z => .lit (.int .u8 z))) := by
  intro i hi
  match i, hi with
  | 0, _ | 1, _ | 2, _ | 3, _ | 4, _ | 5, _ | 6, _ | 7, _ | 8, _ | 9, _ | 10, _ | 11, _ | 12, _ | 13, _ | 14, _ | 15, _ => rfl
  | n + 16, h => exact absurd h (by omega)

/-- The tables that a row lays are the tables that the evaluator knows. -/
theorem base_of_laid {W : World} (h : laidMet Go.Proofs.Tryz.prog [("unicode/utf8.acceptRanges", .agg accD), ("unicode/utf8.first", Go.Pinned.utf8First)] W) : Base Go.Proofs.Tryz.prog (fun _ => False) W := by
  have r1 := Lib.laidMet.reads h (n := "unicode/utf8.first") (d := Go.Pinned.utf8First) (by simp)
  have r2 := Lib.laidMet.reads h (n := "unicode/utf8.acceptRanges") (d := .agg accD) (by simp)
  have c1 : ∀ i (hi : i < utf8F.length), W.cell? ⟨0, i, none⟩ = some (.int .u8 (utf8F[i] : Nat)) := by
    intro i hi
    obtain ⟨g, t, cs, fuel, p, hg, hty, hvar, hd⟩ := r1
    obtain rfl := Option.some.inj (gFirst.symm.trans hg)
    obtain rfl := Option.some.inj (yFirst.symm.trans hty)
    have e : (Go.Pinned.utf8First : DataW Unit) = Lib.tabData .u8 (utf8F.map fun (n : Nat) => (n : Int)) := by
      unfold Go.Pinned.utf8First Lib.tabData Go.Pinned.numbers utf8F
      rw [List.map_map]; rfl
    rw [e] at hd
    have hcs := Lib.cells_of_tab uFirst uByte cByte cFirst hd
    rw [World.var?_cell hg hvar i, ← Array.getElem?_toList, hcs]
    simp [List.getElem?_eq_getElem hi]
  have c2 : ∀ i, i < 32 → W.cell? ⟨1, i, none⟩ = some (.int .u8 ((acceptL.getD i 0 : Nat) : Int)) := by
    intro i hi32
    obtain ⟨g, t, cs, fuel, p, hg, hty, hvar, hd⟩ := r2
    obtain rfl := Option.some.inj (gAcc.symm.trans hg)
    obtain rfl := Option.some.inj (yAcc.symm.trans hty)
    obtain ⟨fuel', d, q, hdi, he⟩ := Lib.array_elem uAcc hd (i / 2) (by omega)
    rw [accD_at _ (by omega), Option.some.injEq] at hdi
    subst hdi
    rw [cRow] at he
    have hcs := Lib.ints_of_struct uRow (fun j f hj => by
      match j, hj with
      | 0, hj => simp at hj; subst hj; exact ⟨uByte, rfl, cByte⟩
      | 1, hj => simp at hj; subst hj; exact ⟨uByte, rfl, cByte⟩
      | j + 2, hj => simp at hj) (by rw [cRow]; rfl) he
    have e0 := congrArg (·[0]?) hcs
    have e1 := congrArg (·[1]?) hcs
    simp only [List.getElem?_take,List.getElem?_drop] at e0 e1
    rw [World.var?_cell hg hvar i, ← Array.getElem?_toList]
    rcases Nat.mod_two_eq_zero_or_one i with hm | hm
    · have : i = i / 2 * 2 + 0 := by omega
      rw [this]
      have h2 : 2 * (i / 2) = i / 2 * 2 + 0 := by omega
      rw [h2] at e0
      simpa using e0
    · have : i = i / 2 * 2 + 1 := by omega
      rw [this]
      have h2 : 2 * (i / 2) + 1 = i / 2 * 2 + 1 := by omega
      rw [h2] at e1
      have h3 : (i / 2 * 2 + 1) / 2 = i / 2 := by omega
      simpa [h3] using e1
  intro g ns hg
  unfold tabOf at hg
  rw [gFirst, gAcc] at hg
  split at hg
  · rename_i h1
    obtain rfl := Option.some.inj h1
    cases hg
    exact ⟨fun h => h, cell_lt (c1 0 (by rw [show utf8F.length = 256 by kernel_rfl]; decide)), c1⟩
  · split at hg
    · rename_i h1
      obtain rfl := Option.some.inj h1
      cases hg
      exact ⟨fun h => h, cell_lt (c2 0 (by decide)), fun i hi => (c2 i hi).trans (by simp [List.getD, List.getElem?_eq_getElem hi])⟩
    · cases hg
end Fe
