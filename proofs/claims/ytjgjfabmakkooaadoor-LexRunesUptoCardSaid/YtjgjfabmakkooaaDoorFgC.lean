/-
  Contract: the law LexRunes; the tables that a row lays. No condition.
-/
import Derived.Test.YtjgjfabmakkooaaDoorFfN
import Derived.Test.YtjgjfabmakkooaaDoorProg
import Derived.Lib.LaidU8
set_option linter.unusedSimpArgs false
set_option linter.unusedVariables false
open Go Go.Proofs
namespace Fe
def b211 : C :=
 (.seq
 (.region false [
 ⟨some 0, .op (.mov (.c (.str []))), none⟩])
 (.seq
 (.region false [
 ⟨some 0, .op (.mov (.c (.str [43, 45, 195, 151, 195, 183, 226, 140, 136, 226, 140, 138, 124, 42, 33, 126, 60, 226, 137, 164, 61, 226, 137, 165, 62, 226, 137, 160, 226, 136, 167, 226, 136, 168, 226, 141, 178, 226, 141, 177, 226, 141, 180, 44, 226, 141, 170, 226, 134, 145, 226, 134, 147, 226, 140, 189, 226, 138, 150, 226, 141, 137, 47, 226, 140, 191, 92, 226, 141, 128, 226, 141, 179, 226, 136, 138, 226, 141, 139, 226, 141, 146, 226, 136, 170, 226, 138, 130, 226, 138, 131, 226, 137, 161, 226, 137, 162, 226, 138, 164, 226, 138, 165, 226, 140, 183, 226, 141, 142, 226, 141, 149, 194, 168, 226, 136, 152, 46, 226, 141, 168]))), none⟩])
 .ret))
def c211 : CF := ⟨1, 0, [.mov (.t 0)], b211⟩
def b203 : C :=
 (.seq
 (.region false [
 ⟨some 4, .op (.mov (.c (.bool false))), none⟩])
 (.seq
 (.region false [
 ⟨some 13, .op (.mov (.t 0)), none⟩,
 ⟨some 14, .call false (.c (.fn 6 [] [])) [.t 13], none⟩,
 ⟨some 12, .op (.mov (.t 14)), none⟩,
 ⟨some 15, .op (.extract (.t 12) 0), none⟩,
 ⟨some 16, .op (.extract (.t 12) 1), none⟩,
 ⟨some 17, .op (.extract (.t 12) 2), none⟩,
 ⟨some 5, .op (.mov (.t 15)), none⟩,
 ⟨some 6, .op (.mov (.t 16)), none⟩,
 ⟨some 7, .op (.mov (.t 17)), none⟩])
 (.seq
 (.region false [
 ⟨some 19, .op (.mov (.t 0)), none⟩,
 ⟨some 20, .call false (.c (.fn 7 [] [])) [.t 19], none⟩,
 ⟨some 18, .op (.mov (.t 20)), none⟩,
 ⟨some 21, .op (.extract (.t 18) 0), none⟩,
 ⟨some 22, .op (.extract (.t 18) 1), none⟩,
 ⟨some 23, .op (.extract (.t 18) 2), none⟩,
 ⟨some 8, .op (.mov (.t 21)), none⟩,
 ⟨some 9, .op (.mov (.t 22)), none⟩,
 ⟨some 10, .op (.mov (.t 23)), none⟩])
 (.seq
 (.seq
 (.region false [
 ⟨some 24, .call false (.c (.fn 8 [] [])) [], none⟩,
 ⟨some 25, .op (.un .not (.t 24)), none⟩,
 ⟨some 26, .op (.mov (.t 25)), none⟩,
 ⟨some 27, .op (.mov (.t 6)), some (26, false)⟩,
 ⟨some 28, .op (.mov (.t 9)), some (26, false)⟩,
 ⟨some 29, .op (.bin 0 .neq (.t 27) (.t 28)), some (26, false)⟩,
 ⟨some 30, .op (.pick (.t 26) (.c (.bool true)) (.t 29)), none⟩,
 ⟨some 31, .op (.mov (.t 30)), none⟩,
 ⟨some 32, .op (.mov (.t 7)), some (31, false)⟩,
 ⟨some 33, .op (.mov (.t 10)), some (31, false)⟩,
 ⟨some 34, .op (.bin 0 .neq (.t 32) (.t 33)), some (31, false)⟩,
 ⟨some 35, .op (.pick (.t 31) (.c (.bool true)) (.t 34)), none⟩,
 ⟨some 36, .op (.mov (.t 35)), none⟩,
 ⟨some 37, .op (.mov (.t 5)), some (36, false)⟩,
 ⟨some 38, .op (.len false (.t 37)), some (36, false)⟩,
 ⟨some 39, .op (.mov (.t 8)), some (36, false)⟩,
 ⟨some 40, .op (.len false (.t 39)), some (36, false)⟩,
 ⟨some 41, .op (.bin 0 .neq (.t 38) (.t 40)), some (36, false)⟩,
 ⟨some 42, .op (.pick (.t 36) (.c (.bool true)) (.t 41)), none⟩,
 ⟨some 43, .op (.mov (.t 42)), none⟩,
 ⟨some 44, .op (.mov (.t 1)), some (43, false)⟩,
 ⟨some 45, .call false (.c (.fn 9 [] [])) [.t 44], some (43, false)⟩,
 ⟨some 46, .op (.mov (.t 1)), some (43, false)⟩,
 ⟨some 47, .call false (.c (.fn 10 [] [])) [.t 46], some (43, false)⟩,
 ⟨some 48, .op (.bin 1 .neq (.t 45) (.t 47)), some (43, false)⟩,
 ⟨some 49, .op (.pick (.t 43) (.c (.bool true)) (.t 48)), none⟩,
 ⟨some 50, .op (.mov (.t 49)), none⟩,
 ⟨some 51, .call false (.c (.fn 11 [] [])) [], some (50, false)⟩,
 ⟨some 52, .call false (.c (.fn 12 [] [])) [], some (50, false)⟩,
 ⟨some 53, .op (.bin 0 .neq (.t 51) (.t 52)), some (50, false)⟩,
 ⟨some 54, .op (.pick (.t 50) (.c (.bool true)) (.t 53)), none⟩])
 (.cond (.t 54)
 (.seq
 (.region false [
 ⟨some 4, .op (.mov (.c (.bool false))), none⟩])
 .ret)
 .skip))
 (.seq
 (.seq
 (.region false [
 ⟨some 11, .op (.mov (.c (.int .i64 0))), none⟩])
 (.block 0
 (.loop
 (.seq
 (.seq
 (.region false [
 ⟨some 55, .op (.mov (.t 11)), none⟩,
 ⟨some 56, .op (.mov (.t 5)), none⟩,
 ⟨some 57, .op (.len false (.t 56)), none⟩,
 ⟨some 58, .op (.bin 0 .lss (.t 55) (.t 57)), none⟩])
 (.cond (.t 58)
 .skip
 (.exit 0)))
 (.seq
 (.block 1
 (.seq
 (.region true [
 ⟨some 61, .op (.mov (.t 5)), none⟩,
 ⟨some 62, .op (.mov (.t 11)), none⟩,
 ⟨some 63, .op (.iaddr 1 (.t 61) (.t 62)), none⟩,
 ⟨some 64, .op (.load false 1 (.t 63)), none⟩,
 ⟨some 65, .op (.mov (.t 8)), none⟩,
 ⟨some 66, .op (.mov (.t 11)), none⟩,
 ⟨some 67, .op (.iaddr 1 (.t 65) (.t 66)), none⟩,
 ⟨some 68, .op (.load false 1 (.t 67)), none⟩,
 ⟨some 69, .op (.bin 0 .neq (.t 64) (.t 68)), none⟩])
 (.cond (.t 69)
 (.seq
 (.region false [
 ⟨some 4, .op (.mov (.c (.bool false))), none⟩])
 .ret)
 .skip)))
 (.region false [
 ⟨some 59, .op (.mov (.t 11)), none⟩,
 ⟨some 60, .op (.bin 0 .add (.t 59) (.c (.int .i64 1))), none⟩,
 ⟨some 11, .op (.mov (.t 60)), none⟩]))))))
 (.seq
 (.region false [
 ⟨some 4, .op (.mov (.c (.bool true))), none⟩])
 .ret))))))
def c203 : CF := ⟨70, 2, [.mov (.t 4)], b203⟩
theorem s211 : stripF Go.Proofs.Tryd.prog 11 = some c211 := by kernel_rfl
theorem s203 : stripF Go.Proofs.Tryd.prog 3 = some c203 := by kernel_rfl

theorem good211 : Good Go.Proofs.Tryd.prog 11 [] (.str primB) := by
  refine good_go mix s211 (Nat.le_of_ble_eq_true rfl) fun e he => ?_
  clear he
  simp only [c211,b211]
  simp -implicitDefEqProofs (disch := omega) only [↓z00,↓z01,↓z02,↓z03,↓z04,↓z05,↓z06,↓z07,↓z08,↓z09,↓z10,↓z11,↓z12,↓z13,↓z14,↓z15,↓z16,↓z17,↓z18,↓z19,↓z20,↓z21,↓z22,↓z23,↓z24,z25,z26,z27,z28,z29,z30,z09,z10,z31,↓reduceIte,↓z32,↓z33,↓z34,↓z35,↓ev_t,↓ev_c,↓z36,↓z37,↓z38,↓z39,Env.put,↓z40,stepO,lenV,binV,binInt,unV,loadV,sliceV,boundOf,convV,slstrV,z41,z42,z43,z44,if_pos,z45,z46,w64',w32',w8',Int.reduceToNat,Nat.reducePow,z47,z48,z49,z50,z51,V.cells,V.isCell,V.boxable,z52,z53,z54,z55,z56,z57,Nat.reduceEqDiff,reduceCtorEq,z58,z59,z60,↓z61,↓z62,↓z63,↓z64,↓z65,↓z66,↓done_l,↓done_lm,↓done_lll,z70,z71,z72,z73,z74,z75,z76,z77,z78,reduceIte,z79,z80,z81,z82,z83,z84,z85,z86,z87,z88,z89,z90,z91,z92,z93,z94,z95,ite_self,z96,z97,z98,z99,y00,y01,y02,y03,enterEnv,y04,y05,y06,y07,y08,y09,y10,y11,y12]
  exact gives_eq rfl rfl

theorem good203 (s : List UInt8) (c : Int) (hs : s.length ≤ 1100000) : Good Go.Proofs.Tryd.prog 3 [.str s, .int .i32 c] (.bool true) := by
  have hA := good13 s hs
  have hB := good207 s hs
  obtain ⟨l, er, i, hl, hr⟩ : ∃ (l : List Nat) (er i : Int), l.length ≤ 1100000 ∧ runesR s = .tup [rsl l, .int .i64 er, .int .i64 i] := by
    unfold runesR
    cases bad s with
    | none => exact ⟨rn s, 0, 0, by have := rn_len s; omega, rfl⟩
    | some i => exact ⟨[], 26, (i : Nat), by simp, rfl⟩
  rw [hr] at hA hB
  have hro : (V.tup [rsl l, .int .i64 er, .int .i64 i]).ro = true := by simp [V.ro, roL, rsl, rl_ro]
  refine good_go mix s203 (Nat.le_of_ble_eq_true rfl) fun e he => ?_
  have e0 : e 0 = .str s := he 0
  have e1 : e 1 = .int .i32 c := he 1
  clear he
  simp only [c203,b203]
  simp -implicitDefEqProofs (disch := omega) only [↓z00,↓z01,↓z02,↓z03,↓z04,↓z05,↓z06,↓z07,↓z08,↓z09,↓z10,↓z11,↓z12,↓z13,↓z14,↓z15,↓z16,↓z17,↓z18,↓z19,↓z20,↓z21,↓z22,↓z23,↓z24,z25,z26,z27,z28,z29,z30,z09,z10,z31,↓reduceIte,↓z32,↓z33,↓z34,↓z35,↓ev_t,↓ev_c,↓z36,↓z37,↓z38,↓z39,Env.put,↓z40,stepO,lenV,binV,binInt,unV,loadV,sliceV,boundOf,convV,slstrV,z41,z42,z43,z44,if_pos,z45,z46,w64',w32',w8',Int.reduceToNat,Nat.reducePow,z47,z48,z49,z50,z51,V.cells,V.isCell,V.boxable,z52,z53,z54,z55,z56,z57,Nat.reduceEqDiff,reduceCtorEq,z58,z59,z60,↓z61,↓z62,↓z63,↓z64,↓z65,↓z66,↓done_l,↓done_lm,↓done_lll,z70,z71,z72,z73,z74,z75,z76,z77,z78,reduceIte,z79,z80,z81,z82,z83,z84,z85,z86,z87,z88,z89,z90,z91,z92,z93,z94,z95,ite_self,z96,z97,z98,z99,y00,y01,y02,y03,enterEnv,y04,y05,y06,y07,y08,y09,y10,y11,y12,e0,e1]
  refine calP_ro rfl hA hro ?_
  simp -implicitDefEqProofs (disch := omega) only [↓z00,↓z01,↓z02,↓z03,↓z04,↓z05,↓z06,↓z07,↓z08,↓z09,↓z10,↓z11,↓z12,↓z13,↓z14,↓z15,↓z16,↓z17,↓z18,↓z19,↓z20,↓z21,↓z22,↓z23,↓z24,z25,z26,z27,z28,z29,z30,z09,z10,z31,↓reduceIte,↓z32,↓z33,↓z34,↓z35,↓ev_t,↓ev_c,↓z36,↓z37,↓z38,↓z39,Env.put,↓z40,stepO,lenV,binV,binInt,unV,loadV,sliceV,boundOf,convV,slstrV,z41,z42,z43,z44,if_pos,z45,z46,w64',w32',w8',Int.reduceToNat,Nat.reducePow,z47,z48,z49,z50,z51,V.cells,V.isCell,V.boxable,z52,z53,z54,z55,z56,z57,Nat.reduceEqDiff,reduceCtorEq,z58,z59,z60,↓z61,↓z62,↓z63,↓z64,↓z65,↓z66,↓done_l,↓done_lm,↓done_lll,z70,z71,z72,z73,z74,z75,z76,z77,z78,reduceIte,z79,z80,z81,z82,z83,z84,z85,z86,z87,z88,z89,z90,z91,z92,z93,z94,z95,ite_self,z96,z97,z98,z99,y00,y01,y02,y03,enterEnv,y04,y05,y06,y07,y08,y09,y10,y11,y12,e0,e1]
  refine calP_ro rfl hB hro ?_
  simp -implicitDefEqProofs (disch := omega) only [↓z00,↓z01,↓z02,↓z03,↓z04,↓z05,↓z06,↓z07,↓z08,↓z09,↓z10,↓z11,↓z12,↓z13,↓z14,↓z15,↓z16,↓z17,↓z18,↓z19,↓z20,↓z21,↓z22,↓z23,↓z24,z25,z26,z27,z28,z29,z30,z09,z10,z31,↓reduceIte,↓z32,↓z33,↓z34,↓z35,↓ev_t,↓ev_c,↓z36,↓z37,↓z38,↓z39,Env.put,↓z40,stepO,lenV,binV,binInt,unV,loadV,sliceV,boundOf,convV,slstrV,z41,z42,z43,z44,if_pos,z45,z46,w64',w32',w8',Int.reduceToNat,Nat.reducePow,z47,z48,z49,z50,z51,V.cells,V.isCell,V.boxable,z52,z53,z54,z55,z56,z57,Nat.reduceEqDiff,reduceCtorEq,z58,z59,z60,↓z61,↓z62,↓z63,↓z64,↓z65,↓z66,↓done_l,↓done_lm,↓done_lll,z70,z71,z72,z73,z74,z75,z76,z77,z78,reduceIte,z79,z80,z81,z82,z83,z84,z85,z86,z87,z88,z89,z90,z91,z92,z93,z94,z95,ite_self,z96,z97,z98,z99,y00,y01,y02,y03,enterEnv,y04,y05,y06,y07,y08,y09,y10,y11,y12,e0,e1]
  refine calP_ro rfl good6 rfl ?_
  simp -implicitDefEqProofs (disch := omega) only [↓z00,↓z01,↓z02,↓z03,↓z04,↓z05,↓z06,↓z07,↓z08,↓z09,↓z10,↓z11,↓z12,↓z13,↓z14,↓z15,↓z16,↓z17,↓z18,↓z19,↓z20,↓z21,↓z22,↓z23,↓z24,z25,z26,z27,z28,z29,z30,z09,z10,z31,↓reduceIte,↓z32,↓z33,↓z34,↓z35,↓ev_t,↓ev_c,↓z36,↓z37,↓z38,↓z39,Env.put,↓z40,stepO,lenV,binV,binInt,unV,loadV,sliceV,boundOf,convV,slstrV,z41,z42,z43,z44,if_pos,z45,z46,w64',w32',w8',Int.reduceToNat,Nat.reducePow,z47,z48,z49,z50,z51,V.cells,V.isCell,V.boxable,z52,z53,z54,z55,z56,z57,Nat.reduceEqDiff,reduceCtorEq,z58,z59,z60,↓z61,↓z62,↓z63,↓z64,↓z65,↓z66,↓done_l,↓done_lm,↓done_lll,z70,z71,z72,z73,z74,z75,z76,z77,z78,reduceIte,z79,z80,z81,z82,z83,z84,z85,z86,z87,z88,z89,z90,z91,z92,z93,z94,z95,ite_self,z96,z97,z98,z99,y00,y01,y02,y03,enterEnv,y04,y05,y06,y07,y08,y09,y10,y11,y12,e0,e1,rsl,bne_self_eq_false]
  refine calP_ro rfl (good57i c) rfl ?_
  simp -implicitDefEqProofs (disch := omega) only [↓z00,↓z01,↓z02,↓z03,↓z04,↓z05,↓z06,↓z07,↓z08,↓z09,↓z10,↓z11,↓z12,↓z13,↓z14,↓z15,↓z16,↓z17,↓z18,↓z19,↓z20,↓z21,↓z22,↓z23,↓z24,z25,z26,z27,z28,z29,z30,z09,z10,z31,↓reduceIte,↓z32,↓z33,↓z34,↓z35,↓ev_t,↓ev_c,↓z36,↓z37,↓z38,↓z39,Env.put,↓z40,stepO,lenV,binV,binInt,unV,loadV,sliceV,boundOf,convV,slstrV,z41,z42,z43,z44,if_pos,z45,z46,w64',w32',w8',Int.reduceToNat,Nat.reducePow,z47,z48,z49,z50,z51,V.cells,V.isCell,V.boxable,z52,z53,z54,z55,z56,z57,Nat.reduceEqDiff,reduceCtorEq,z58,z59,z60,↓z61,↓z62,↓z63,↓z64,↓z65,↓z66,↓done_l,↓done_lm,↓done_lll,z70,z71,z72,z73,z74,z75,z76,z77,z78,reduceIte,z79,z80,z81,z82,z83,z84,z85,z86,z87,z88,z89,z90,z91,z92,z93,z94,z95,ite_self,z96,z97,z98,z99,y00,y01,y02,y03,enterEnv,y04,y05,y06,y07,y08,y09,y10,y11,y12,e0,e1,rsl,bne_self_eq_false]
  refine calP_ro rfl (good210 c) rfl ?_
  simp -implicitDefEqProofs (disch := omega) only [↓z00,↓z01,↓z02,↓z03,↓z04,↓z05,↓z06,↓z07,↓z08,↓z09,↓z10,↓z11,↓z12,↓z13,↓z14,↓z15,↓z16,↓z17,↓z18,↓z19,↓z20,↓z21,↓z22,↓z23,↓z24,z25,z26,z27,z28,z29,z30,z09,z10,z31,↓reduceIte,↓z32,↓z33,↓z34,↓z35,↓ev_t,↓ev_c,↓z36,↓z37,↓z38,↓z39,Env.put,↓z40,stepO,lenV,binV,binInt,unV,loadV,sliceV,boundOf,convV,slstrV,z41,z42,z43,z44,if_pos,z45,z46,w64',w32',w8',Int.reduceToNat,Nat.reducePow,z47,z48,z49,z50,z51,V.cells,V.isCell,V.boxable,z52,z53,z54,z55,z56,z57,Nat.reduceEqDiff,reduceCtorEq,z58,z59,z60,↓z61,↓z62,↓z63,↓z64,↓z65,↓z66,↓done_l,↓done_lm,↓done_lll,z70,z71,z72,z73,z74,z75,z76,z77,z78,reduceIte,z79,z80,z81,z82,z83,z84,z85,z86,z87,z88,z89,z90,z91,z92,z93,z94,z95,ite_self,z96,z97,z98,z99,y00,y01,y02,y03,enterEnv,y04,y05,y06,y07,y08,y09,y10,y11,y12,e0,e1,rsl,bne_self_eq_false]
  refine calP_ro rfl good211 rfl ?_
  simp -implicitDefEqProofs (disch := omega) only [↓z00,↓z01,↓z02,↓z03,↓z04,↓z05,↓z06,↓z07,↓z08,↓z09,↓z10,↓z11,↓z12,↓z13,↓z14,↓z15,↓z16,↓z17,↓z18,↓z19,↓z20,↓z21,↓z22,↓z23,↓z24,z25,z26,z27,z28,z29,z30,z09,z10,z31,↓reduceIte,↓z32,↓z33,↓z34,↓z35,↓ev_t,↓ev_c,↓z36,↓z37,↓z38,↓z39,Env.put,↓z40,stepO,lenV,binV,binInt,unV,loadV,sliceV,boundOf,convV,slstrV,z41,z42,z43,z44,if_pos,z45,z46,w64',w32',w8',Int.reduceToNat,Nat.reducePow,z47,z48,z49,z50,z51,V.cells,V.isCell,V.boxable,z52,z53,z54,z55,z56,z57,Nat.reduceEqDiff,reduceCtorEq,z58,z59,z60,↓z61,↓z62,↓z63,↓z64,↓z65,↓z66,↓done_l,↓done_lm,↓done_lll,z70,z71,z72,z73,z74,z75,z76,z77,z78,reduceIte,z79,z80,z81,z82,z83,z84,z85,z86,z87,z88,z89,z90,z91,z92,z93,z94,z95,ite_self,z96,z97,z98,z99,y00,y01,y02,y03,enterEnv,y04,y05,y06,y07,y08,y09,y10,y11,y12,e0,e1,rsl,bne_self_eq_false]
  refine calP_ro rfl good212 rfl ?_
  simp -implicitDefEqProofs (disch := omega) only [↓z00,↓z01,↓z02,↓z03,↓z04,↓z05,↓z06,↓z07,↓z08,↓z09,↓z10,↓z11,↓z12,↓z13,↓z14,↓z15,↓z16,↓z17,↓z18,↓z19,↓z20,↓z21,↓z22,↓z23,↓z24,z25,z26,z27,z28,z29,z30,z09,z10,z31,↓reduceIte,↓z32,↓z33,↓z34,↓z35,↓ev_t,↓ev_c,↓z36,↓z37,↓z38,↓z39,Env.put,↓z40,stepO,lenV,binV,binInt,unV,loadV,sliceV,boundOf,convV,slstrV,z41,z42,z43,z44,if_pos,z45,z46,w64',w32',w8',Int.reduceToNat,Nat.reducePow,z47,z48,z49,z50,z51,V.cells,V.isCell,V.boxable,z52,z53,z54,z55,z56,z57,Nat.reduceEqDiff,reduceCtorEq,z58,z59,z60,↓z61,↓z62,↓z63,↓z64,↓z65,↓z66,↓done_l,↓done_lm,↓done_lll,z70,z71,z72,z73,z74,z75,z76,z77,z78,reduceIte,z79,z80,z81,z82,z83,z84,z85,z86,z87,z88,z89,z90,z91,z92,z93,z94,z95,ite_self,z96,z97,z98,z99,y00,y01,y02,y03,enterEnv,y04,y05,y06,y07,y08,y09,y10,y11,y12,e0,e1,rsl,bne_self_eq_false,binStr,z95,z58]
  refine go_loop (fun m e H => ∃ j : Nat, j ≤ l.length ∧ m = l.length - j ∧ e 5 = .sl false (rl l) l.length ∧ e 8 = .sl false (rl l) l.length ∧ e 11 = .int .i64 (j : Nat))
    l.length ⟨0, by omega, rfl, ?_, ?_, ?_⟩ ?_
  · simp [Env.set]
  · simp [Env.set]
  · simp [Env.set]
  rintro m e H ⟨j, hj, rfl, e5, e8, e11⟩
  rcases Nat.lt_or_ge j l.length with hlt | hge
  · have hat := rl_get (List.getElem?_eq_getElem hlt)
    simp -implicitDefEqProofs (disch := omega) only [↓z00,↓z01,↓z02,↓z03,↓z04,↓z05,↓z06,↓z07,↓z08,↓z09,↓z10,↓z11,↓z12,↓z13,↓z14,↓z15,↓z16,↓z17,↓z18,↓z19,↓z20,↓z21,↓z22,↓z23,↓z24,z25,z26,z27,z28,z29,z30,z09,z10,z31,↓reduceIte,↓z32,↓z33,↓z34,↓z35,↓ev_t,↓ev_c,↓z36,↓z37,↓z38,↓z39,Env.put,↓z40,stepO,lenV,binV,binInt,unV,loadV,sliceV,boundOf,convV,slstrV,z41,z42,z43,z44,if_pos,z45,z46,w64',w32',w8',Int.reduceToNat,Nat.reducePow,z47,z48,z49,z50,z51,V.cells,V.isCell,V.boxable,z52,z53,z54,z55,z56,z57,Nat.reduceEqDiff,reduceCtorEq,z58,z59,z60,↓z61,↓z62,↓z63,↓z64,↓z65,↓z66,↓done_l,↓done_lm,↓done_lll,z70,z71,z72,z73,z74,z75,z76,z77,z78,reduceIte,z79,z80,z81,z82,z83,z84,z85,z86,z87,z88,z89,z90,z91,z92,z93,z94,z95,ite_self,z96,z97,z98,z99,y00,y01,y02,y03,enterEnv,y04,y05,y06,y07,y08,y09,y10,y11,y12,e5,e8,e11,hat,bne_self_eq_false]
    exact ⟨_, by omega, j + 1, by omega, rfl, rfl⟩
  · simp -implicitDefEqProofs (disch := omega) only [↓z00,↓z01,↓z02,↓z03,↓z04,↓z05,↓z06,↓z07,↓z08,↓z09,↓z10,↓z11,↓z12,↓z13,↓z14,↓z15,↓z16,↓z17,↓z18,↓z19,↓z20,↓z21,↓z22,↓z23,↓z24,z25,z26,z27,z28,z29,z30,z09,z10,z31,↓reduceIte,↓z32,↓z33,↓z34,↓z35,↓ev_t,↓ev_c,↓z36,↓z37,↓z38,↓z39,Env.put,↓z40,stepO,lenV,binV,binInt,unV,loadV,sliceV,boundOf,convV,slstrV,z41,z42,z43,z44,if_pos,z45,z46,w64',w32',w8',Int.reduceToNat,Nat.reducePow,z47,z48,z49,z50,z51,V.cells,V.isCell,V.boxable,z52,z53,z54,z55,z56,z57,Nat.reduceEqDiff,reduceCtorEq,z58,z59,z60,↓z61,↓z62,↓z63,↓z64,↓z65,↓z66,↓done_l,↓done_lm,↓done_lll,z70,z71,z72,z73,z74,z75,z76,z77,z78,reduceIte,z79,z80,z81,z82,z83,z84,z85,z86,z87,z88,z89,z90,z91,z92,z93,z94,z95,ite_self,z96,z97,z98,z99,y00,y01,y02,y03,enterEnv,y04,y05,y06,y07,y08,y09,y10,y11,y12,e5,e8,e11]
    exact gives_eq rfl rfl
end Fe
open Go Go.Proofs
namespace Fe
theorem gFirst : Go.Proofs.Tryd.prog.globalNamed "unicode/utf8.first" = some 0 := by kernel_rfl
theorem gAcc : Go.Proofs.Tryd.prog.globalNamed "unicode/utf8.acceptRanges" = some 1 := by kernel_rfl
theorem yFirst : (Go.Proofs.Tryd.prog.globals[0]?).map (·.type) = some 59 := by kernel_rfl
theorem yAcc : (Go.Proofs.Tryd.prog.globals[1]?).map (·.type) = some 63 := by kernel_rfl
theorem uFirst : Go.Proofs.Tryd.prog.underlying 59 = some (.array 256 5) := by kernel_rfl
theorem uAcc : Go.Proofs.Tryd.prog.underlying 63 = some (.array 16 62) := by kernel_rfl
theorem uRow : Go.Proofs.Tryd.prog.underlying 62 = some (.struct #[{ name := "lo", type := 5, offset := 0, embedded := false, tag := "", pkgPath := "unicode/utf8", byteOffset := 0 }, { name := "hi", type := 5, offset := 1, embedded := false, tag := "", pkgPath := "unicode/utf8", byteOffset := 1 }]) := by kernel_rfl
theorem uByte : Go.Proofs.Tryd.prog.underlying 5 = some (.int .u8) := by kernel_rfl
theorem cByte : Go.Proofs.Tryd.prog.cellsOf 5 = 1 := by kernel_rfl
theorem cFirst : Go.Proofs.Tryd.prog.cellsOf 59 = 256 := by kernel_rfl
theorem cRow : Go.Proofs.Tryd.prog.cellsOf 62 = 2 := by kernel_rfl

def accD : List (DataW Unit) := [.agg [.lit (.int .u8 128), .lit (.int .u8 191)], .agg [.lit (.int .u8 160), .lit (.int .u8 191)], .agg [.lit (.int .u8 128), .lit (.int .u8 159)], .agg [.lit (.int .u8 144), .lit (.int .u8 191)], .agg [.lit (.int .u8 128), .lit (.int .u8 143)], .agg [.lit (.int .u8 0), .lit (.int .u8 0)], .agg [.lit (.int .u8 0), .lit (.int .u8 0)], .agg [.lit (.int .u8 0), .lit (.int .u8 0)], .agg [.lit (.int .u8 0), .lit (.int .u8 0)], .agg [.lit (.int .u8 0), .lit (.int .u8 0)], .agg [.lit (.int .u8 0), .lit (.int .u8 0)], .agg [.lit (.int .u8 0), .lit (.int .u8 0)], .agg [.lit (.int .u8 0), .lit (.int .u8 0)], .agg [.lit (.int .u8 0), .lit (.int .u8 0)], .agg [.lit (.int .u8 0), .lit (.int .u8 0)], .agg [.lit (.int .u8 0), .lit (.int .u8 0)]]
theorem accD_at : ∀ i, i < 16 → accD[i]? = some (.agg ([((acceptL.getD (2 * i) 0 : Nat) : Int), ((acceptL.getD (2 * i + 1) 0 : Nat) : Int)].map fun z => .lit (.int .u8 z))) := by
  intro i hi
  match i, hi with
  | 0, _ | 1, _ | 2, _ | 3, _ | 4, _ | 5, _ | 6, _ | 7, _ | 8, _ | 9, _ | 10, _ | 11, _ | 12, _ | 13, _ | 14, _ | 15, _ => rfl
  | n + 16, h => exact absurd h (by omega)

/-- The tables that a row lays are the tables that the evaluator knows. -/
theorem base_of_laid {W : World} (h : laidMet Go.Proofs.Tryd.prog [("unicode/utf8.acceptRanges", .agg accD), ("unicode/utf8.first", Go.Pinned.utf8First)] W) : Base Go.Proofs.Tryd.prog (fun _ => False) W := by
  have r1 := Lib.laidMet.reads h (n := "unicode/utf8.first") (d := Go.Pinned.utf8First) (by simp)
  have r2 := Lib.laidMet.reads h (n := "unicode/utf8.acceptRanges") (d := .agg accD) (by simp)
  have c1 : ∀ i (hi : i < utf8F.length), W.cell? ⟨0, i, none⟩ = some (.int .u8 (utf8F[i] : Nat)) := by
    intro i hi
    obtain ⟨g, t, cs, fuel, p, hg, hty, hvar, hd⟩ := r1
    obtain rfl := Option.some.inj (gFirst.symm.trans hg)
    obtain rfl := Option.some.inj (yFirst.symm.trans hty)
    have e : (Go.Pinned.utf8First : DataW Unit) = Lib.tabData .u8 (utf8F.map fun (n : Nat) => (n : Int)) := by
      unfold Go.Pinned.utf8First Lib.tabData Go.Pinned.numbers utf8F
      rw [List.map_map]; rfl
    rw [e] at hd
    have hcs := Lib.cells_of_tab uFirst uByte cByte cFirst hd
    rw [World.var?_cell hg hvar i, ← Array.getElem?_toList, hcs]
    simp [List.getElem?_eq_getElem hi]
  have c2 : ∀ i, i < 32 → W.cell? ⟨1, i, none⟩ = some (.int .u8 ((acceptL.getD i 0 : Nat) : Int)) := by
    intro i hi32
    obtain ⟨g, t, cs, fuel, p, hg, hty, hvar, hd⟩ := r2
    obtain rfl := Option.some.inj (gAcc.symm.trans hg)
    obtain rfl := Option.some.inj (yAcc.symm.trans hty)
    obtain ⟨fuel', d, q, hdi, he⟩ := Lib.array_elem uAcc hd (i / 2) (by omega)
    rw [accD_at _ (by omega), Option.some.injEq] at hdi
    subst hdi
    rw [cRow] at he
    have hcs := Lib.ints_of_struct uRow (fun j f hj => by
      match j, hj with
      | 0, hj => simp at hj; subst hj; exact ⟨uByte, rfl, cByte⟩
      | 1, hj => simp at hj; subst hj; exact ⟨uByte, rfl, cByte⟩
      | j + 2, hj => simp at hj) (by rw [cRow]; rfl) he
    have e0 := congrArg (·[0]?) hcs
    have e1 := congrArg (·[1]?) hcs
    simp only [List.getElem?_take,List.getElem?_drop] at e0 e1
    rw [World.var?_cell hg hvar i, ← Array.getElem?_toList]
    rcases Nat.mod_two_eq_zero_or_one i with hm | hm
    · have : i = i / 2 * 2 + 0 := by omega
      rw [this]
      have h2 : 2 * (i / 2) = i / 2 * 2 + 0 := by omega
      rw [h2] at e0
      simpa using e0
    · have : i = i / 2 * 2 + 1 := by omega
      rw [this]
      have h2 : 2 * (i / 2) + 1 = i / 2 * 2 + 1 := by omega
      rw [h2] at e1
      have h3 : (i / 2 * 2 + 1) / 2 = i / 2 := by omega
      simpa [h3] using e1
  intro g ns hg
  unfold tabOf at hg
  rw [gFirst, gAcc] at hg
  split at hg
  · rename_i h1
    obtain rfl := Option.some.inj h1
    cases hg
    exact ⟨fun h => h, cell_lt (c1 0 (by rw [show utf8F.length = 256 by kernel_rfl]; decide)), c1⟩
  · split at hg
    · rename_i h1
      obtain rfl := Option.some.inj h1
      cases hg
      exact ⟨fun h => h, cell_lt (c2 0 (by decide)), fun i hi => (c2 i hi).trans (by simp [List.getD, List.getElem?_eq_getElem hi])⟩
    · cases hg
end Fe
