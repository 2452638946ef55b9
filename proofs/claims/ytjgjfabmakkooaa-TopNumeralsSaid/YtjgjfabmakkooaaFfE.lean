/-
  Contracts: numbers as arrays. No condition.
-/
import Derived.Test.YtjgjfabmakkooaaFfC
set_option linter.unusedSimpArgs false
set_option linter.unusedVariables false
open Go Go.Proofs
namespace Fe
def b17 : C :=
 (.seq
 (.region false [
 oQ 4 (.mov (.c (.bool false)))])
 (.seq
 (.seq
 (.region false [
 oQ 6 (.mov (.t 0)),
 oQ 7 (.len false (.t 6)),
 oQ 8 (.mov (.t 1)),
 oQ 9 (.len false (.t 8)),
 oQ 10 (.bin 0 .neq (.t 7) (.t 9))])
 (.cond (.t 10)
 (.seq
 (.region false [
 oQ 4 (.mov (.c (.bool false)))])
 .ret)
 .skip))
 (.seq
 (.seq
 (.region false [
 oQ 11 (.mov (.t 0)),
 oQ 12 (.len false (.t 11)),
 oQ 13 (.mov (.c (.int .i64 0)))])
 (.block 0
 (.loop
 (.seq
 (.region false [
 oQ 14 (.bin 0 .lss (.t 13) (.t 12))])
 (.seq
 (.cond (.t 14)
 .skip
 (.exit 0))
 (.seq
 (.block 1
 (.seq
 (.region false [
 oQ 15 (.mov (.t 13)),
 oQ 5 (.mov (.t 15))])
 (.seq
 (.region true [
 oQ 16 (.mov (.t 0)),
 oQ 17 (.mov (.t 5)),
 oQ 18 (.iaddr 1 (.t 16) (.t 17)),
 oQ 19 (.load false 1 (.t 18)),
 oQ 20 (.mov (.t 1)),
 oQ 21 (.mov (.t 5)),
 oQ 22 (.iaddr 1 (.t 20) (.t 21)),
 oQ 23 (.load false 1 (.t 22)),
 oQ 24 (.bin 0 .neq (.t 19) (.t 23))])
 (.cond (.t 24)
 (.seq
 (.region false [
 oQ 4 (.mov (.c (.bool false)))])
 .ret)
 .skip))))
 (.region false [
 oQ 25 (.bin 0 .add (.t 13) (.c (.int .i64 1))),
 oQ 13 (.mov (.t 25))])))))))
 (.seq
 (.region false [
 oQ 4 (.mov (.c (.bool true)))])
 .ret))))
def c17 : CF := ⟨26, 2, [.mov (.t 4)], b17⟩
def b9 : C :=
 (.seq
 (.region false [
 oQ 1 (.box (.t 0)),
 oQ 2 (.mov (.c (.bool false)))])
 (.seq
 (.seq
 (.region false [
 oQ 3 (.faddr 1 (.t 1)),
 oQ 4 (.load false 1 (.t 3)),
 ⟨some 5, .call false (.c (.fn 19 [] [])) [.t 4], none⟩,
 oQ 6 (.un .not (.t 5)),
 oQ 7 (.mov (.t 6)),
 ⟨some 8, .op (.faddr 2 (.t 1)), some (7, false)⟩,
 ⟨some 9, .op (.load false 1 (.t 8)), some (7, false)⟩,
 ⟨some 10, .call false (.c (.fn 19 [] [])) [.t 9], some (7, false)⟩,
 ⟨some 11, .op (.un .not (.t 10)), some (7, false)⟩,
 oQ 12 (.pick (.t 7) (.c (.bool true)) (.t 11)),
 oQ 13 (.mov (.t 12)),
 ⟨some 14, .op (.faddr 1 (.t 1)), some (13, false)⟩,
 ⟨some 15, .op (.load false 1 (.t 14)), some (13, false)⟩,
 ⟨some 16, .op (.len false (.t 15)), some (13, false)⟩,
 ⟨some 17, .op (.bin 0 .gtr (.t 16) (.c (.int .i64 32))), some (13, false)⟩,
 oQ 18 (.pick (.t 13) (.c (.bool true)) (.t 17)),
 oQ 19 (.mov (.t 18)),
 ⟨some 20, .op (.faddr 2 (.t 1)), some (19, false)⟩,
 ⟨some 21, .op (.load false 1 (.t 20)), some (19, false)⟩,
 ⟨some 22, .op (.len false (.t 21)), some (19, false)⟩,
 ⟨some 23, .op (.bin 0 .gtr (.t 22) (.c (.int .i64 32))), some (19, false)⟩,
 oQ 24 (.pick (.t 19) (.c (.bool true)) (.t 23))])
 (.cond (.t 24)
 (.seq
 (.region false [
 oQ 2 (.mov (.c (.bool false)))])
 .ret)
 .skip))
 (.seq
 (.region false [
 oQ 25 (.faddr 2 (.t 1)),
 oQ 26 (.load false 1 (.t 25)),
 oQ 27 (.len false (.t 26)),
 oQ 28 (.bin 0 .gtr (.t 27) (.c (.int .i64 0))),
 oQ 29 (.mov (.t 28)),
 ⟨some 30, .op (.faddr 1 (.t 1)), some (29, true)⟩,
 ⟨some 31, .op (.load false 1 (.t 30)), some (29, true)⟩,
 ⟨some 32, .op (.len false (.t 31)), some (29, true)⟩,
 ⟨some 33, .op (.bin 0 .gtr (.t 32) (.c (.int .i64 0))), some (29, true)⟩,
 ⟨some 34, .op (.mov (.t 33)), some (29, true)⟩,
 ⟨some 35, .op (.faddr 0 (.t 1)), some (34, false)⟩,
 ⟨some 36, .op (.load false 1 (.t 35)), some (34, false)⟩,
 ⟨some 37, .op (.un .not (.t 36)), some (34, false)⟩,
 ⟨some 38, .op (.pick (.t 34) (.c (.bool true)) (.t 37)), some (29, true)⟩,
 oQ 39 (.pick (.t 29) (.t 38) (.c (.bool false))),
 oQ 40 (.mov (.t 39)),
 ⟨some 41, .op (.faddr 1 (.t 1)), some (40, true)⟩,
 ⟨some 42, .op (.load false 1 (.t 41)), some (40, true)⟩,
 ⟨some 43, .op (.faddr 2 (.t 1)), some (40, true)⟩,
 ⟨some 44, .op (.load false 1 (.t 43)), some (40, true)⟩,
 ⟨some 45, .op (.mksl [.sl true [] 0, .sl true [] 0] 2 [(0, (1, .t 42)), (1, (1, .t 44))]), some (40, true)⟩,
 ⟨some 46, .call false (.c (.fn 20 [] [])) [.t 45], some (40, true)⟩,
 ⟨some 47, .call false (.c (.fn 18 [] [])) [], some (40, true)⟩,
 ⟨some 48, .call false (.c (.fn 17 [] [])) [.t 46, .t 47], some (40, true)⟩,
 oQ 49 (.pick (.t 40) (.t 48) (.c (.bool false))),
 oQ 2 (.mov (.t 49))])
 .ret)))
def c9 : CF := ⟨50, 1, [.mov (.t 2)], b9⟩
def b43 : C :=
 (.seq
 (.region false [
 oQ 1 (.box (.t 0)),
 oQ 2 (.box (.c (.agg [.bool false, .sl true [] 0, .sl true [] 0])))])
 (.seq
 (.region true [
 oQ 3 (.faddr 0 (.t 1)),
 oQ 4 (.load false 1 (.t 3)),
 oQ 5 (.faddr 1 (.t 1)),
 oQ 6 (.load false 1 (.t 5)),
 ⟨some 7, .call true (.c (.fn 60 [] [])) [.t 6], none⟩,
 oQ 8 (.faddr 2 (.t 1)),
 oQ 9 (.load false 1 (.t 8)),
 ⟨some 10, .call true (.c (.fn 60 [] [])) [.t 9], none⟩,
 oQ 11 (.build [.bool false, .sl true [] 0, .sl true [] 0] [(0, (1, .t 4)), (1, (1, .t 7)), (2, (1, .t 10))]),
 ⟨none, .op (.store 3 (.t 2) (.t 11)), none⟩])
 .ret))
def c43 : CF := ⟨12, 1, [.load true 3 (.t 2)], b43⟩
def b24 : C :=
 (.seq
 (.region false [
 oQ 1 (.box (.t 0)),
 oQ 2 (.box (.c (.agg [.int .u8 0, .bool false, .sl true [] 0, .sl true [] 0, .int .i32 0, .sl true [] 0])))])
 (.seq
 (.region false [
 oQ 3 (.load true 3 (.t 1)),
 ⟨some 4, .call false (.c (.fn 43 [] [])) [.t 3], none⟩,
 oQ 5 (.build [.int .u8 0, .bool false, .sl true [] 0, .sl true [] 0, .int .i32 0, .sl true [] 0] [(0, (1, .c (.int .u8 1))), (1, (3, .t 4))]),
 ⟨none, .op (.store 6 (.t 2) (.t 5)), none⟩])
 .ret))
def c24 : CF := ⟨6, 1, [.load true 6 (.t 2)], b24⟩
def b23 : C :=
 (.seq
 (.region false [
 oQ 1 (.box (.t 0)),
 oQ 2 (.box (.c (.agg [.sl true [] 0, .sl true [] 0])))])
 (.seq
 (.region false [
 oQ 3 (.load true 6 (.t 1)),
 oQ 4 (.mksl [.int .u8 0, .bool false, .sl true [] 0, .sl true [] 0, .int .i32 0, .sl true [] 0] 1 [(0, (6, .t 3))]),
 oQ 5 (.build [.sl true [] 0, .sl true [] 0] [(1, (1, .t 4))]),
 ⟨none, .op (.store 2 (.t 2) (.t 5)), none⟩])
 .ret))
def c23 : CF := ⟨6, 1, [.load true 2 (.t 2)], b23⟩
def b11 : C :=
 (.seq
 (.region false [
 oQ 1 (.box (.t 0)),
 oQ 2 (.box (.c (.agg [.sl true [] 0, .sl true [] 0])))])
 (.seq
 (.seq
 (.region false [
 oQ 3 (.load true 3 (.t 1)),
 ⟨some 4, .call false (.c (.fn 9 [] [])) [.t 3], none⟩,
 oQ 5 (.un .not (.t 4))])
 (.cond (.t 5)
 (.seq
 (.region false [
 ⟨some 6, .call false (.c (.fn 12 [] [])) [.c (.int .i64 0)], none⟩,
 ⟨none, .op (.store 2 (.t 2) (.t 6)), none⟩])
 .ret)
 .skip))
 (.seq
 (.region false [
 oQ 7 (.load true 3 (.t 1)),
 ⟨some 8, .call false (.c (.fn 24 [] [])) [.t 7], none⟩,
 ⟨some 9, .call false (.c (.fn 23 [] [])) [.t 8], none⟩,
 ⟨none, .op (.store 2 (.t 2) (.t 9)), none⟩])
 .ret)))
def c11 : CF := ⟨10, 1, [.load true 2 (.t 2)], b11⟩
def b78 : C :=
 (.seq
 (.region false [
 oQ 2 (.box (.c (.agg [.int .u8 0, .bool false, .sl true [] 0, .sl true [] 0, .int .i32 0, .sl true [] 0])))])
 (.seq
 (.region false [
 oQ 3 (.mov (.t 0)),
 oQ 4 (.build [.int .u8 0, .bool false, .sl true [] 0, .sl true [] 0, .int .i32 0, .sl true [] 0] [(0, (1, .c (.int .u8 2))), (4, (1, .t 3))]),
 ⟨none, .op (.store 6 (.t 2) (.t 4)), none⟩])
 .ret))
def c78 : CF := ⟨5, 1, [.load true 6 (.t 2)], b78⟩
def b80 : C :=
 (.seq
 (.region false [
 oQ 2 (.mov (.c (.bool false)))])
 (.seq
 (.region false [
 oQ 3 (.mov (.t 0)),
 oQ 4 (.bin 0 .geq (.t 3) (.c (.int .i32 0))),
 oQ 5 (.mov (.t 4)),
 ⟨some 6, .op (.mov (.t 0)), some (5, true)⟩,
 ⟨some 7, .op (.bin 0 .leq (.t 6) (.c (.int .i32 1114111))), some (5, true)⟩,
 oQ 8 (.pick (.t 5) (.t 7) (.c (.bool false))),
 oQ 9 (.mov (.t 8)),
 ⟨some 10, .op (.mov (.t 0)), some (9, true)⟩,
 ⟨some 11, .op (.bin 0 .lss (.t 10) (.c (.int .i32 55296))), some (9, true)⟩,
 ⟨some 12, .op (.mov (.t 11)), some (9, true)⟩,
 ⟨some 13, .op (.mov (.t 0)), some (12, false)⟩,
 ⟨some 14, .op (.bin 0 .gtr (.t 13) (.c (.int .i32 57343))), some (12, false)⟩,
 ⟨some 15, .op (.pick (.t 12) (.c (.bool true)) (.t 14)), some (9, true)⟩,
 oQ 16 (.pick (.t 9) (.t 15) (.c (.bool false))),
 oQ 2 (.mov (.t 16))])
 .ret))
def c80 : CF := ⟨17, 1, [.mov (.t 2)], b80⟩
def b51 : C :=
 (.seq
 (.region false [
 oQ 2 (.box (.c (.agg [.sl true [] 0, .sl true [] 0])))])
 (.seq
 (.seq
 (.region false [
 oQ 3 (.mov (.t 0)),
 ⟨some 4, .call false (.c (.fn 80 [] [])) [.t 3], none⟩,
 oQ 5 (.un .not (.t 4))])
 (.cond (.t 5)
 (.seq
 (.region false [
 ⟨some 6, .call false (.c (.fn 12 [] [])) [.c (.int .i64 0)], none⟩,
 ⟨none, .op (.store 2 (.t 2) (.t 6)), none⟩])
 .ret)
 .skip))
 (.seq
 (.region false [
 oQ 7 (.mov (.t 0)),
 ⟨some 8, .call false (.c (.fn 78 [] [])) [.t 7], none⟩,
 ⟨some 9, .call false (.c (.fn 23 [] [])) [.t 8], none⟩,
 ⟨none, .op (.store 2 (.t 2) (.t 9)), none⟩])
 .ret)))
def c51 : CF := ⟨10, 1, [.load true 2 (.t 2)], b51⟩
theorem s17 : stripF Go.Proofs.Try.prog 17 = some c17 := by kernel_rfl
theorem s9 : stripF Go.Proofs.Try.prog 9 = some c9 := by kernel_rfl
theorem s43 : stripF Go.Proofs.Try.prog 43 = some c43 := by kernel_rfl
theorem s24 : stripF Go.Proofs.Try.prog 24 = some c24 := by kernel_rfl
theorem s23 : stripF Go.Proofs.Try.prog 23 = some c23 := by kernel_rfl
theorem s11 : stripF Go.Proofs.Try.prog 11 = some c11 := by kernel_rfl
theorem s78 : stripF Go.Proofs.Try.prog 78 = some c78 := by kernel_rfl
theorem s80 : stripF Go.Proofs.Try.prog 80 = some c80 := by kernel_rfl
theorem s51 : stripF Go.Proofs.Try.prog 51 = some c51 := by kernel_rfl

theorem good17 (ea eb : Bool) (l : List Nat) (hl : l.length ≤ 1100000) : Good Go.Proofs.Try.prog 17 [nsl ea l, nsl eb l] (.bool true) := by
  refine good_go mix s17 (Nat.le_of_ble_eq_true rfl) fun e he => ?_
  have e0 : e 0 = nsl ea l := he 0
  have e1 : e 1 = nsl eb l := he 1
  clear he
  simp only [c17,b17, oQ]
  simp -implicitDefEqProofs (disch := omega) only [↓ZD,ZP,cnd_t,cnd_f,↓reduceIte,Env.put,stepO,lenV,binV,binInt,unV,loadV,sliceV,boundOf,convV,slstrV,if_pos,if_neg,Int.reduceToNat,Nat.reducePow,V.cells,V.isCell,V.boxable,Nat.reduceEqDiff,reduceCtorEq,reduceIte,ite_self,enterEnv,e0,e1,nsl]
  refine go_loop (fun k e H => H = [] ∧ ∃ i, i ≤ l.length ∧ k = l.length - i ∧ e 0 = .sl ea (nl l) l.length ∧ e 1 = .sl eb (nl l) l.length ∧ e 12 = .int .i64 (l.length : Nat) ∧ e 13 = .int .i64 (i : Nat))
    l.length ⟨rfl, 0, Nat.zero_le _, rfl, ?_, ?_, ?_, ?_⟩ ?_
  · simp [Env.set, e0, nsl]
  · simp [Env.set, e1, nsl]
  · simp [Env.set]
  · simp [Env.set]
  rintro k e H ⟨rfl, i, hi, rfl, e0, e1, e12, e13⟩
  rcases Nat.lt_or_ge i l.length with hlt | hge
  · have hat : (nl l)[i]? = some (limb l[i]) := nl_get (List.getElem?_eq_getElem hlt)
    generalize l[i] = x at *
    simp -implicitDefEqProofs (disch := omega) only [↓ZD,ZP,cnd_t,cnd_f,↓reduceIte,Env.put,stepO,lenV,binV,binInt,unV,loadV,sliceV,boundOf,convV,slstrV,if_pos,if_neg,Int.reduceToNat,Nat.reducePow,V.cells,V.isCell,V.boxable,Nat.reduceEqDiff,reduceCtorEq,reduceIte,ite_self,enterEnv,e0,e1,e12,e13,hat,limb]
    exact ⟨_, by omega, i + 1, by omega, rfl, rfl⟩
  · have : i = l.length := by omega
    subst this
    simp -implicitDefEqProofs (disch := omega) only [↓ZD,ZP,cnd_t,cnd_f,↓reduceIte,Env.put,stepO,lenV,binV,binInt,unV,loadV,sliceV,boundOf,convV,slstrV,if_pos,if_neg,Int.reduceToNat,Nat.reducePow,V.cells,V.isCell,V.boxable,Nat.reduceEqDiff,reduceCtorEq,reduceIte,ite_self,enterEnv,e0,e1,e12,e13]
    exact gives_eq rfl rfl

theorem cut_limn (n : Nat) : cut (lim n) = lim n := by rw [cut_lim (lim_lm n), lim_val]

/-- A number such as the document wants. -/
def NumOK (b : Bool) (n d : Nat) : Prop := (lim n).length ≤ 32 ∧ (lim d).length ≤ 32 ∧ d ≠ 0 ∧ (n = 0 → b = false) ∧ Nat.gcd n d = 1

theorem lim_one : lim 1 = [1] := by rw [lim_pos (by decide)]; simp [lim_zero]

theorem right9 (b : Bool) (n d : Nat) (h : NumOK b n d) : Good Go.Proofs.Try.prog 9 [rv b n d] (.bool true) := by
  obtain ⟨h1, h2, h3, h4, h5⟩ := h
  refine good_go mix s9 (Nat.le_of_ble_eq_true rfl) fun e he => ?_
  have e0 : e 0 = rv b n d := he 0
  clear he
  have hgn := good19 false (lim n) (by omega)
  have hgd := good19 false (lim d) (by omega)
  rw [cut_limn] at hgn hgd
  simp only [decide_true] at hgn hgd
  have hdl : (lim d).length ≠ 0 := fun h => h3 (lim_nil_len.1 h)
  have hn0 := lim_nil_len (n := n)
  have hg := good20 true [(false, lim n), (false, lim d)] (by
    intro p hp
    rcases List.mem_cons.1 hp with rfl | hp
    · exact ⟨lim_lm _, by simp only; omega⟩
    · rw [List.mem_singleton.1 hp]; exact ⟨lim_lm _, by simp only; omega⟩) (by simp)
  have hgc : gcdL 0 [(false, lim n), (false, lim d)] = 1 := by simp [gcdL, lim_val, h5]
  rw [hgc] at hg
  have hge := good17 false false (lim 1) (by rw [lim_one]; decide)
  simp only [c9,b9, oQ]
  simp -implicitDefEqProofs (disch := omega) only [↓ZD,ZP,cnd_t,cnd_f,↓reduceIte,Env.put,stepO,lenV,binV,binInt,unV,loadV,sliceV,boundOf,convV,slstrV,if_pos,if_neg,Int.reduceToNat,Nat.reducePow,V.cells,V.isCell,V.boxable,Nat.reduceEqDiff,reduceCtorEq,reduceIte,ite_self,enterEnv,e0,rv,fillL,evParts,splice,List.take_zero,List.take_succ_cons,List.drop_succ_cons,List.drop_zero,List.drop_nil,nf,nsl]
  refine calP_ro (by simp [roL, V.ro, nl_ro, nsl_ro, nf_ro, nls_ro]) hgn rfl ?_
  simp -implicitDefEqProofs (disch := omega) only [↓ZD,ZP,cnd_t,cnd_f,↓reduceIte,Env.put,stepO,lenV,binV,binInt,unV,loadV,sliceV,boundOf,convV,slstrV,if_pos,if_neg,Int.reduceToNat,Nat.reducePow,V.cells,V.isCell,V.boxable,Nat.reduceEqDiff,reduceCtorEq,reduceIte,ite_self,enterEnv,e0,rv,fillL,evParts,splice,List.take_zero,List.take_succ_cons,List.drop_succ_cons,List.drop_zero,List.drop_nil,nf,nsl]
  refine calP_ro (by simp [roL, V.ro, nl_ro, nsl_ro, nf_ro, nls_ro]) hgd rfl ?_
  by_cases hz : n = 0
  · have hzl := hn0.2 hz
    have hb := h4 hz
    subst hb
    simp -implicitDefEqProofs (disch := omega) only [↓ZD,ZP,cnd_t,cnd_f,↓reduceIte,Env.put,stepO,lenV,binV,binInt,unV,loadV,sliceV,boundOf,convV,slstrV,if_pos,if_neg,Int.reduceToNat,Nat.reducePow,V.cells,V.isCell,V.boxable,Nat.reduceEqDiff,reduceCtorEq,reduceIte,ite_self,enterEnv,e0,rv,fillL,evParts,splice,List.take_zero,List.take_succ_cons,List.drop_succ_cons,List.drop_zero,List.drop_nil,nf,nsl]
    refine calP_ro (by simp [roL, V.ro, nl_ro, nsl_ro, nf_ro, nls_ro]) hg (nf_ro _) ?_
    simp -implicitDefEqProofs (disch := omega) only [↓ZD,ZP,cnd_t,cnd_f,↓reduceIte,Env.put,stepO,lenV,binV,binInt,unV,loadV,sliceV,boundOf,convV,slstrV,if_pos,if_neg,Int.reduceToNat,Nat.reducePow,V.cells,V.isCell,V.boxable,Nat.reduceEqDiff,reduceCtorEq,reduceIte,ite_self,enterEnv,e0,rv,fillL,evParts,splice,List.take_zero,List.take_succ_cons,List.drop_succ_cons,List.drop_zero,List.drop_nil,nf,nsl]
    refine calP_ro (by simp [roL, V.ro, nl_ro, nsl_ro, nf_ro, nls_ro]) good18 (nf_ro _) ?_
    simp -implicitDefEqProofs (disch := omega) only [↓ZD,ZP,cnd_t,cnd_f,↓reduceIte,Env.put,stepO,lenV,binV,binInt,unV,loadV,sliceV,boundOf,convV,slstrV,if_pos,if_neg,Int.reduceToNat,Nat.reducePow,V.cells,V.isCell,V.boxable,Nat.reduceEqDiff,reduceCtorEq,reduceIte,ite_self,enterEnv,e0,rv,fillL,evParts,splice,List.take_zero,List.take_succ_cons,List.drop_succ_cons,List.drop_zero,List.drop_nil,nf,nsl]
    refine calP_ro (by simp [roL, V.ro, nl_ro, nsl_ro, nf_ro, nls_ro]) hge rfl ?_
    simp -implicitDefEqProofs (disch := omega) only [↓ZD,ZP,cnd_t,cnd_f,↓reduceIte,Env.put,stepO,lenV,binV,binInt,unV,loadV,sliceV,boundOf,convV,slstrV,if_pos,if_neg,Int.reduceToNat,Nat.reducePow,V.cells,V.isCell,V.boxable,Nat.reduceEqDiff,reduceCtorEq,reduceIte,ite_self,enterEnv,e0,rv,fillL,evParts,splice,List.take_zero,List.take_succ_cons,List.drop_succ_cons,List.drop_zero,List.drop_nil,nf,nsl]
    exact gives_eq rfl rfl
  · have hzl : (lim n).length ≠ 0 := fun h => hz (hn0.1 h)
    simp -implicitDefEqProofs (disch := omega) only [↓ZD,ZP,cnd_t,cnd_f,↓reduceIte,Env.put,stepO,lenV,binV,binInt,unV,loadV,sliceV,boundOf,convV,slstrV,if_pos,if_neg,Int.reduceToNat,Nat.reducePow,V.cells,V.isCell,V.boxable,Nat.reduceEqDiff,reduceCtorEq,reduceIte,ite_self,enterEnv,e0,rv,fillL,evParts,splice,List.take_zero,List.take_succ_cons,List.drop_succ_cons,List.drop_zero,List.drop_nil,nf,nsl]
    refine calP_ro (by simp [roL, V.ro, nl_ro, nsl_ro, nf_ro, nls_ro]) hg (nf_ro _) ?_
    simp -implicitDefEqProofs (disch := omega) only [↓ZD,ZP,cnd_t,cnd_f,↓reduceIte,Env.put,stepO,lenV,binV,binInt,unV,loadV,sliceV,boundOf,convV,slstrV,if_pos,if_neg,Int.reduceToNat,Nat.reducePow,V.cells,V.isCell,V.boxable,Nat.reduceEqDiff,reduceCtorEq,reduceIte,ite_self,enterEnv,e0,rv,fillL,evParts,splice,List.take_zero,List.take_succ_cons,List.drop_succ_cons,List.drop_zero,List.drop_nil,nf,nsl]
    refine calP_ro (by simp [roL, V.ro, nl_ro, nsl_ro, nf_ro, nls_ro]) good18 (nf_ro _) ?_
    simp -implicitDefEqProofs (disch := omega) only [↓ZD,ZP,cnd_t,cnd_f,↓reduceIte,Env.put,stepO,lenV,binV,binInt,unV,loadV,sliceV,boundOf,convV,slstrV,if_pos,if_neg,Int.reduceToNat,Nat.reducePow,V.cells,V.isCell,V.boxable,Nat.reduceEqDiff,reduceCtorEq,reduceIte,ite_self,enterEnv,e0,rv,fillL,evParts,splice,List.take_zero,List.take_succ_cons,List.drop_succ_cons,List.drop_zero,List.drop_nil,nf,nsl]
    refine calP_ro (by simp [roL, V.ro, nl_ro, nsl_ro, nf_ro, nls_ro]) hge rfl ?_
    simp -implicitDefEqProofs (disch := omega) only [↓ZD,ZP,cnd_t,cnd_f,↓reduceIte,Env.put,stepO,lenV,binV,binInt,unV,loadV,sliceV,boundOf,convV,slstrV,if_pos,if_neg,Int.reduceToNat,Nat.reducePow,V.cells,V.isCell,V.boxable,Nat.reduceEqDiff,reduceCtorEq,reduceIte,ite_self,enterEnv,e0,rv,fillL,evParts,splice,List.take_zero,List.take_succ_cons,List.drop_succ_cons,List.drop_zero,List.drop_nil,nf,nsl]
    exact gives_eq rfl rfl

/-- Items and arrays, as values. -/
def itemN (b : Bool) (n d : Nat) : List V := [.int .u8 1, .bool b, nf (lim n), nf (lim d), .int .i32 0, .sl false [] 0]
def itemC (c : Nat) : List V := [.int .u8 2, .bool false, .sl false [] 0, .sl false [] 0, .int .i32 c, .sl false [] 0]
def scalarV (item : List V) : V := .agg [.sl false [] 0, .sl false item 1]

theorem good43 (b : Bool) (n d : Nat) (hn : (lim n).length ≤ 1000) (hd : (lim d).length ≤ 1000) : Good Go.Proofs.Try.prog 43 [rv b n d] (rv b n d) := by
  refine good_go mix s43 (Nat.le_of_ble_eq_true rfl) fun e he => ?_
  have e0 : e 0 = rv b n d := he 0
  clear he
  simp only [c43,b43, oQ]
  simp -implicitDefEqProofs (disch := omega) only [↓ZD,ZP,cnd_t,cnd_f,↓reduceIte,Env.put,stepO,lenV,binV,binInt,unV,loadV,sliceV,boundOf,convV,slstrV,if_pos,if_neg,Int.reduceToNat,Nat.reducePow,V.cells,V.isCell,V.boxable,Nat.reduceEqDiff,reduceCtorEq,reduceIte,ite_self,enterEnv,e0,rv,fillL,evParts,splice,List.take_zero,List.take_succ_cons,List.drop_succ_cons,List.drop_zero,List.drop_nil,nf,nsl]
  refine calD_ro (by simp [roL, V.ro, nl_ro, nsl_ro, nf_ro, nls_ro]) (clone60 false (lim n) (by omega)) (nf_ro _) ?_
  simp -implicitDefEqProofs (disch := omega) only [↓ZD,ZP,cnd_t,cnd_f,↓reduceIte,Env.put,stepO,lenV,binV,binInt,unV,loadV,sliceV,boundOf,convV,slstrV,if_pos,if_neg,Int.reduceToNat,Nat.reducePow,V.cells,V.isCell,V.boxable,Nat.reduceEqDiff,reduceCtorEq,reduceIte,ite_self,enterEnv,e0,rv,fillL,evParts,splice,List.take_zero,List.take_succ_cons,List.drop_succ_cons,List.drop_zero,List.drop_nil,nf,nsl]
  refine calD_ro (by simp [roL, V.ro, nl_ro, nsl_ro, nf_ro, nls_ro]) (clone60 false (lim d) (by omega)) (nf_ro _) ?_
  simp -implicitDefEqProofs (disch := omega) only [↓ZD,ZP,cnd_t,cnd_f,↓reduceIte,Env.put,stepO,lenV,binV,binInt,unV,loadV,sliceV,boundOf,convV,slstrV,if_pos,if_neg,Int.reduceToNat,Nat.reducePow,V.cells,V.isCell,V.boxable,Nat.reduceEqDiff,reduceCtorEq,reduceIte,ite_self,enterEnv,e0,rv,fillL,evParts,splice,List.take_zero,List.take_succ_cons,List.drop_succ_cons,List.drop_zero,List.drop_nil,nf,nsl]
  exact gives_eq (by simp [roL, V.ro, nl_ro, nsl_ro, nf_ro, nls_ro]) rfl

theorem good24 (b : Bool) (n d : Nat) (hn : (lim n).length ≤ 1000) (hd : (lim d).length ≤ 1000) : Good Go.Proofs.Try.prog 24 [rv b n d] (.agg (itemN b n d)) := by
  refine good_go mix s24 (Nat.le_of_ble_eq_true rfl) fun e he => ?_
  have e0 : e 0 = rv b n d := he 0
  clear he
  have hg := good43 b n d hn hd
  rw [rv] at hg
  simp only [c24,b24, oQ]
  simp -implicitDefEqProofs (disch := omega) only [↓ZD,ZP,cnd_t,cnd_f,↓reduceIte,Env.put,stepO,lenV,binV,binInt,unV,loadV,sliceV,boundOf,convV,slstrV,if_pos,if_neg,Int.reduceToNat,Nat.reducePow,V.cells,V.isCell,V.boxable,Nat.reduceEqDiff,reduceCtorEq,reduceIte,ite_self,enterEnv,e0,rv,fillL,evParts,splice,List.take_zero,List.take_succ_cons,List.drop_succ_cons,List.drop_zero,List.drop_nil,nf,nsl]
  refine calP_ro (by simp [roL, V.ro, nl_ro, nsl_ro, nf_ro, nls_ro]) hg (by simp [roL, V.ro, nl_ro, nsl_ro, nf_ro, nls_ro]) ?_
  simp -implicitDefEqProofs (disch := omega) only [↓ZD,ZP,cnd_t,cnd_f,↓reduceIte,Env.put,stepO,lenV,binV,binInt,unV,loadV,sliceV,boundOf,convV,slstrV,if_pos,if_neg,Int.reduceToNat,Nat.reducePow,V.cells,V.isCell,V.boxable,Nat.reduceEqDiff,reduceCtorEq,reduceIte,ite_self,enterEnv,e0,rv,fillL,evParts,splice,List.take_zero,List.take_succ_cons,List.drop_succ_cons,List.drop_zero,List.drop_nil,nf,nsl]
  exact gives_eq (by simp [roL, V.ro, nl_ro, nsl_ro, nf_ro, nls_ro]) rfl

theorem good23 (a b c d e' f : V) (h : roL [a, b, c, d, e', f] = true) (hc : [a, b, c, d, e', f].all V.isCell = true) : Good Go.Proofs.Try.prog 23 [.agg [a, b, c, d, e', f]] (.agg [.sl false [] 0, .sl false [a, b, c, d, e', f] 1]) := by
  refine good_go mix s23 (Nat.le_of_ble_eq_true rfl) fun e he => ?_
  have e0 : e 0 = .agg [a, b, c, d, e', f] := he 0
  clear he
  simp only [c23,b23, oQ]
  simp -implicitDefEqProofs (disch := omega) only [↓ZD,ZP,cnd_t,cnd_f,↓reduceIte,Env.put,stepO,lenV,binV,binInt,unV,loadV,sliceV,boundOf,convV,slstrV,if_pos,if_neg,Int.reduceToNat,Nat.reducePow,V.cells,V.isCell,V.boxable,Nat.reduceEqDiff,reduceCtorEq,reduceIte,ite_self,enterEnv,e0,rv,fillL,evParts,splice,List.take_zero,List.take_succ_cons,List.drop_succ_cons,List.drop_zero,List.drop_nil,nf,nsl]
  exact gives_eq (by simp only [V.ro,roL] at h ⊢; simpa using h) rfl

theorem good78 (c : Nat) : Good Go.Proofs.Try.prog 78 [.int .i32 c] (.agg (itemC c)) := by
  refine good_go mix s78 (Nat.le_of_ble_eq_true rfl) fun e he => ?_
  have e0 : e 0 = .int .i32 c := he 0
  clear he
  simp only [c78,b78, oQ]
  simp -implicitDefEqProofs (disch := omega) only [↓ZD,ZP,cnd_t,cnd_f,↓reduceIte,Env.put,stepO,lenV,binV,binInt,unV,loadV,sliceV,boundOf,convV,slstrV,if_pos,if_neg,Int.reduceToNat,Nat.reducePow,V.cells,V.isCell,V.boxable,Nat.reduceEqDiff,reduceCtorEq,reduceIte,ite_self,enterEnv,e0,rv,fillL,evParts,splice,List.take_zero,List.take_succ_cons,List.drop_succ_cons,List.drop_zero,List.drop_nil,nf,nsl]
  exact gives_eq (by simp [roL, V.ro, nl_ro, nsl_ro, nf_ro, nls_ro]) rfl

def charOK (c : Nat) : Prop := c < 55296 ∨ (57343 < c ∧ c ≤ 1114111)
theorem good80 (c : Nat) (h : charOK c) : Good Go.Proofs.Try.prog 80 [.int .i32 c] (.bool true) := by
  refine good_go mix s80 (Nat.le_of_ble_eq_true rfl) fun e he => ?_
  have e0 : e 0 = .int .i32 c := he 0
  clear he
  unfold charOK at h
  simp only [c80,b80, oQ]
  by_cases h1 : c < 55296
  · simp -implicitDefEqProofs (disch := omega) only [↓ZD,ZP,cnd_t,cnd_f,↓reduceIte,Env.put,stepO,lenV,binV,binInt,unV,loadV,sliceV,boundOf,convV,slstrV,if_pos,if_neg,Int.reduceToNat,Nat.reducePow,V.cells,V.isCell,V.boxable,Nat.reduceEqDiff,reduceCtorEq,reduceIte,ite_self,enterEnv,e0]
    exact gives_eq rfl rfl
  · simp -implicitDefEqProofs (disch := omega) only [↓ZD,ZP,cnd_t,cnd_f,↓reduceIte,Env.put,stepO,lenV,binV,binInt,unV,loadV,sliceV,boundOf,convV,slstrV,if_pos,if_neg,Int.reduceToNat,Nat.reducePow,V.cells,V.isCell,V.boxable,Nat.reduceEqDiff,reduceCtorEq,reduceIte,ite_self,enterEnv,e0]
    exact gives_eq rfl rfl

theorem good51 (c : Nat) (h : charOK c) : Good Go.Proofs.Try.prog 51 [.int .i32 c] (scalarV (itemC c)) := by
  refine good_go mix s51 (Nat.le_of_ble_eq_true rfl) fun e he => ?_
  have e0 : e 0 = .int .i32 c := he 0
  clear he
  simp only [c51,b51, oQ]
  simp -implicitDefEqProofs (disch := omega) only [↓ZD,ZP,cnd_t,cnd_f,↓reduceIte,Env.put,stepO,lenV,binV,binInt,unV,loadV,sliceV,boundOf,convV,slstrV,if_pos,if_neg,Int.reduceToNat,Nat.reducePow,V.cells,V.isCell,V.boxable,Nat.reduceEqDiff,reduceCtorEq,reduceIte,ite_self,enterEnv,e0]
  refine calP_ro rfl (good80 c h) rfl ?_
  simp -implicitDefEqProofs (disch := omega) only [↓ZD,ZP,cnd_t,cnd_f,↓reduceIte,Env.put,stepO,lenV,binV,binInt,unV,loadV,sliceV,boundOf,convV,slstrV,if_pos,if_neg,Int.reduceToNat,Nat.reducePow,V.cells,V.isCell,V.boxable,Nat.reduceEqDiff,reduceCtorEq,reduceIte,ite_self,enterEnv,e0]
  have hg := good78 c
  rw [itemC] at hg
  refine calP_ro rfl hg rfl ?_
  simp -implicitDefEqProofs (disch := omega) only [↓ZD,ZP,cnd_t,cnd_f,↓reduceIte,Env.put,stepO,lenV,binV,binInt,unV,loadV,sliceV,boundOf,convV,slstrV,if_pos,if_neg,Int.reduceToNat,Nat.reducePow,V.cells,V.isCell,V.boxable,Nat.reduceEqDiff,reduceCtorEq,reduceIte,ite_self,enterEnv,e0]
  refine calP_ro rfl (good23 _ _ _ _ _ _ rfl rfl) rfl ?_
  simp -implicitDefEqProofs (disch := omega) only [↓ZD,ZP,cnd_t,cnd_f,↓reduceIte,Env.put,stepO,lenV,binV,binInt,unV,loadV,sliceV,boundOf,convV,slstrV,if_pos,if_neg,Int.reduceToNat,Nat.reducePow,V.cells,V.isCell,V.boxable,Nat.reduceEqDiff,reduceCtorEq,reduceIte,ite_self,enterEnv,e0,fillL,evParts,splice,List.take_zero,List.take_succ_cons,List.drop_succ_cons,List.drop_zero,List.drop_nil]
  exact gives_eq rfl rfl

theorem good11 (b : Bool) (n d : Nat) (h : NumOK b n d) : Good Go.Proofs.Try.prog 11 [rv b n d] (scalarV (itemN b n d)) := by
  refine good_go mix s11 (Nat.le_of_ble_eq_true rfl) fun e he => ?_
  have e0 : e 0 = rv b n d := he 0
  clear he
  have hr := right9 b n d h
  have hg := good24 b n d (by have := h.1; omega) (by have := h.2.1; omega)
  rw [rv] at hr hg
  rw [itemN] at hg
  simp only [c11,b11, oQ]
  simp -implicitDefEqProofs (disch := omega) only [↓ZD,ZP,cnd_t,cnd_f,↓reduceIte,Env.put,stepO,lenV,binV,binInt,unV,loadV,sliceV,boundOf,convV,slstrV,if_pos,if_neg,Int.reduceToNat,Nat.reducePow,V.cells,V.isCell,V.boxable,Nat.reduceEqDiff,reduceCtorEq,reduceIte,ite_self,enterEnv,e0,rv,fillL,evParts,splice,List.take_zero,List.take_succ_cons,List.drop_succ_cons,List.drop_zero,List.drop_nil,nf,nsl]
  refine calP_ro (by simp [roL, V.ro, nl_ro, nsl_ro, nf_ro, nls_ro]) hr rfl ?_
  simp -implicitDefEqProofs (disch := omega) only [↓ZD,ZP,cnd_t,cnd_f,↓reduceIte,Env.put,stepO,lenV,binV,binInt,unV,loadV,sliceV,boundOf,convV,slstrV,if_pos,if_neg,Int.reduceToNat,Nat.reducePow,V.cells,V.isCell,V.boxable,Nat.reduceEqDiff,reduceCtorEq,reduceIte,ite_self,enterEnv,e0,rv,fillL,evParts,splice,List.take_zero,List.take_succ_cons,List.drop_succ_cons,List.drop_zero,List.drop_nil,nf,nsl]
  refine calP_ro (by simp [roL, V.ro, nl_ro, nsl_ro, nf_ro, nls_ro]) hg (by simp [roL, V.ro, nl_ro, nsl_ro, nf_ro, nls_ro]) ?_
  simp -implicitDefEqProofs (disch := omega) only [↓ZD,ZP,cnd_t,cnd_f,↓reduceIte,Env.put,stepO,lenV,binV,binInt,unV,loadV,sliceV,boundOf,convV,slstrV,if_pos,if_neg,Int.reduceToNat,Nat.reducePow,V.cells,V.isCell,V.boxable,Nat.reduceEqDiff,reduceCtorEq,reduceIte,ite_self,enterEnv,e0,rv,fillL,evParts,splice,List.take_zero,List.take_succ_cons,List.drop_succ_cons,List.drop_zero,List.drop_nil,nf,nsl]
  refine calP_ro (by simp [roL, V.ro, nl_ro, nsl_ro, nf_ro, nls_ro]) (good23 _ _ _ _ _ _ (by simp [roL, V.ro, nl_ro, nsl_ro, nf_ro, nls_ro]) rfl) (by simp [roL, V.ro, nl_ro, nsl_ro, nf_ro, nls_ro]) ?_
  simp -implicitDefEqProofs (disch := omega) only [↓ZD,ZP,cnd_t,cnd_f,↓reduceIte,Env.put,stepO,lenV,binV,binInt,unV,loadV,sliceV,boundOf,convV,slstrV,if_pos,if_neg,Int.reduceToNat,Nat.reducePow,V.cells,V.isCell,V.boxable,Nat.reduceEqDiff,reduceCtorEq,reduceIte,ite_self,enterEnv,e0,rv,fillL,evParts,splice,List.take_zero,List.take_succ_cons,List.drop_succ_cons,List.drop_zero,List.drop_nil,nf,nsl]
  exact gives_eq (by simp [roL, V.ro, nl_ro, nsl_ro, nf_ro, nls_ro]) rfl
end Fe
open Go Go.Proofs
namespace Fe
def r77_0 : C :=
 .region false [
 oQ 6 (.box (.c (.agg [.int .u8 0, .bool false, .sl true [] 0, .sl true [] 0, .int .i32 0, .sl true [] 0]))),
 ⟨none, .op (.store 6 (.t 6) (.t 10)), none⟩]
def r77_1 : C :=
 (.block 1
 (.seq
 (.seq
 (.region false [
 oQ 11 (.faddr 0 (.t 5)),
 oQ 12 (.load false 1 (.t 11)),
 oQ 13 (.iaddr 1 (.t 12) (.c (.int .i64 0))),
 oQ 14 (.load false 1 (.t 13)),
 oQ 15 (.bin 0 .eql (.t 14) (.c (.int .i64 4096)))])
 (.cond (.t 15)
 (.exit 0)
 .skip))
 (.seq
 (.region false [
 oQ 16 (.faddr 1 (.t 5)),
 oQ 17 (.load false 1 (.t 16)),
 oQ 18 (.load true 6 (.t 6)),
 oQ 19 (.mksl [.int .u8 0, .bool false, .sl true [] 0, .sl true [] 0, .int .i32 0, .sl true [] 0] 1 [(0, (6, .t 18))]),
 oQ 20 (.append 6 96 (.t 17) (.t 19)),
 oQ 21 (.faddr 1 (.t 5)),
 ⟨none, .op (.store 1 (.t 21) (.t 20)), none⟩])
 (.region false [
 oQ 22 (.faddr 0 (.t 5)),
 oQ 23 (.load false 1 (.t 22)),
 oQ 24 (.iaddr 1 (.t 23) (.c (.int .i64 0))),
 oQ 25 (.load false 1 (.t 24)),
 oQ 26 (.bin 0 .add (.t 25) (.c (.int .i64 1))),
 oQ 27 (.iaddr 1 (.t 23) (.c (.int .i64 0))),
 ⟨none, .op (.store 1 (.t 27) (.t 26)), none⟩]))))
def b77 : C :=
 (.seq
 (.region false [
 oQ 2 (.box (.t 0)),
 oQ 4 (.box (.c (.agg [.sl true [] 0, .sl true [] 0])))])
 (.seq
 (.region false [
 oQ 7 (.mkslh 1 [.int .i64 0] 1 [(0, (1, .c (.int .i64 0)))]),
 oQ 8 (.build [.sl true [] 0, .sl true [] 0] [(0, (1, .t 7))]),
 oQ 5 (.box (.c (.agg [.sl true [] 0, .sl true [] 0]))),
 ⟨none, .op (.store 2 (.t 5) (.t 8)), none⟩])
 (.seq
 (.seq
 (.region false [
 oQ 9 (.mov (.t 1))])
 (.block 0
 (.rangef (.t 9) [10] r77_0 r77_1)))
 (.seq
 (.seq
 (.region false [
 oQ 28 (.faddr 0 (.t 5)),
 oQ 29 (.load false 1 (.t 28)),
 oQ 30 (.iaddr 1 (.t 29) (.c (.int .i64 0))),
 oQ 31 (.load false 1 (.t 30)),
 oQ 32 (.bin 0 .eql (.t 31) (.c (.int .i64 0)))])
 (.cond (.t 32)
 (.region false [
 oQ 33 (.load true 6 (.t 2)),
 oQ 34 (.mksl [.int .u8 0, .bool false, .sl true [] 0, .sl true [] 0, .int .i32 0, .sl true [] 0] 1 [(0, (6, .t 33))]),
 oQ 35 (.faddr 1 (.t 5)),
 ⟨none, .op (.store 1 (.t 35) (.t 34)), none⟩])
 .skip))
 (.seq
 (.region false [
 oQ 36 (.load true 2 (.t 5)),
 ⟨none, .op (.store 2 (.t 4) (.t 36)), none⟩])
 .ret)))))
def c77 : CF := ⟨37, 2, [.load true 2 (.t 4)], b77⟩
def b79 : C :=
 (.seq
 (.region false [
 oQ 5 (.load false 1 (.t 1)),
 oQ 6 (.range (.t 5))])
 (.block 0
 (.loop
 (.seq
 (.region false [
 oQ 7 (.next (.t 6)),
 oQ 8 (.extract (.t 7) 0)])
 (.seq
 (.cond (.t 8)
 .skip
 (.exit 0))
 (.block 1
 (.seq
 (.region false [
 oQ 9 (.extract (.t 7) 2),
 oQ 4 (.mov (.t 9))])
 (.seq
 (.region false [
 oQ 10 (.mov (.t 0)),
 oQ 11 (.mov (.t 4)),
 ⟨some 12, .call false (.c (.fn 78 [] [])) [.t 11], none⟩,
 ⟨some 13, .call false (.t 10) [.t 12], none⟩,
 oQ 14 (.un .not (.t 13))])
 (.cond (.t 14)
 .ret
 .skip)))))))))
def c79 : CF := ⟨15, 1, [], b79⟩
def b50 : C :=
 (.seq
 (.region false [
 oQ 1 (.box (.t 0)),
 oQ 2 (.box (.c (.agg [.sl true [] 0, .sl true [] 0])))])
 (.seq
 (.region false [
 ⟨some 3, .call false (.c (.fn 78 [] [])) [.c (.int .i32 32)], none⟩,
 oQ 4 (.mkfn 79 [] [.t 1]),
 ⟨some 5, .call false (.c (.fn 77 [] [])) [.t 3, .t 4], none⟩,
 ⟨none, .op (.store 2 (.t 2) (.t 5)), none⟩])
 .ret))
def c50 : CF := ⟨6, 1, [.load true 2 (.t 2)], b50⟩
theorem s77 : stripF Go.Proofs.Try.prog 77 = some c77 := by kernel_rfl
theorem s79 : stripF Go.Proofs.Try.prog 79 = some c79 := by kernel_rfl
theorem s50 : stripF Go.Proofs.Try.prog 50 = some c50 := by kernel_rfl

section
variable {H : Heap}
theorem get_push {j : Nat} {x : HObj} (h : j < H.length) : (H ++ [x])[j]? = H[j]? := List.getElem?_append_left h
theorem get_push_at {x : HObj} : (H ++ [x])[H.length]? = some x := by simp
theorem get_push_eq {j : Nat} {x : HObj} (h : j = H.length) : (H ++ [x])[j]? = some x := by subst h; simp
theorem get_set_ne {i j : Nat} {x : HObj} (h : ¬ j = i) : (H.set i x)[j]? = H[j]? := List.getElem?_set_ne (Ne.symm h)
theorem get_set_self {i : Nat} {x : HObj} (h : i < H.length) : (H.set i x)[i]? = some x := List.getElem?_set_self h
theorem set_push {x y : HObj} : (H ++ [x]).set H.length y = H ++ [y] := by simp
theorem len_push {x : HObj} : (H ++ [x]).length = H.length + 1 := by simp
theorem len_set {i : Nat} {x : HObj} : (H.set i x).length = H.length := List.length_set
end

theorem ZL : (type_of% @get_push_at) ∧ (type_of% @get_push_eq) ∧ (type_of% @set_push) ∧ (type_of% @get_push) ∧ (type_of% @get_set_ne) ∧ (type_of% @get_set_self) ∧ (type_of% @len_push) ∧ (type_of% @len_set) := ⟨@get_push_at, @get_push_eq, @set_push, @get_push, @get_set_ne, @get_set_self, @len_push, @len_set⟩
theorem rng_env {P : Program} {f : V} {ps : List Nat} {a c : C} {e : Env} {H : Heap} {S : List Fr} {K : Cont} (h : ∀ e' : Env, (∀ i, e' i = e i) → rng P f ps a c e' H S K) : rng P f ps a c e H S K := h e fun _ => rfl

/-- The characters, yielded one by one. -/
theorem call79 (s : List UInt8) (k : Nat) (H₀ : Heap) (K : V → Heap → Prop) (J : Nat → Heap → Prop) (hs : s.length ≤ 1100000) (h0 : J 0 (H₀ ++ [.iter s 0]))
    (hset : ∀ i H pos, J i H → J i (H.set H₀.length (.iter s pos))) (hlen : ∀ i H, J i H → H₀.length < H.length)
    (hyld : ∀ i H pos c, (rn s)[i]? = some c → J i H → H[H₀.length]? = some (.iter s pos) → Yld Go.Proofs.Try.prog k [.agg (itemC c)] H fun r H' => r = .bool true ∧ J (i + 1) H' ∧ H'[H₀.length]? = some (.iter s pos))
    (hK : ∀ H, J (rn s).length H → K (.tup []) H) : Call2 Go.Proofs.Try.prog 79 [.yld k, .rptr [.str s] 0] H₀ K := by
  refine call2_go mix s79 (Nat.le_of_ble_eq_true rfl) fun e he => ?_
  have e0 : e 0 = .yld k := he 0
  have e1 : e 1 = .rptr [.str s] 0 := he 1
  clear he
  simp only [c79,b79, oQ]
  simp -implicitDefEqProofs (disch := omega) only [↓ZD,ZP,cnd_t,cnd_f,↓reduceIte,Env.put,stepO,lenV,binV,binInt,unV,loadV,sliceV,boundOf,convV,slstrV,if_pos,if_neg,Int.reduceToNat,Nat.reducePow,V.cells,V.isCell,V.boxable,Nat.reduceEqDiff,reduceCtorEq,reduceIte,ite_self,enterEnv,e0,e1]
  refine go_loop (fun m e H => ∃ pos i, H[H₀.length]? = some (.iter s pos) ∧ J i H ∧ pos ≤ s.length ∧ m = s.length - pos ∧ (rn s).drop i = rn (s.drop pos) ∧ i + (rn (s.drop pos)).length = (rn s).length ∧ e 0 = .yld k ∧ e 6 = .cell H₀.length 0 0)
    s.length ⟨0, 0, get_push_at, h0, Nat.zero_le _, rfl, rfl, by simp, ?_, ?_⟩ ?_
  · simp [Env.set, e0]
  · simp [Env.set]
  rintro m e H ⟨pos, i, hit, hJ, hpos, rfl, hdrop, hi, e0, e6⟩
  have hl := hlen i H hJ
  rcases Nat.lt_or_ge pos s.length with hlt | hge
  · obtain ⟨d1, d2, d3⟩ := drop_dec hlt
    obtain ⟨c, w, hd⟩ : ∃ c w, decL (s.drop pos) = (c, w) := ⟨_, _, rfl⟩
    simp only [hd] at d1 d2 d3
    rw [d3] at hdrop hi
    have hci : (rn s)[i]? = some c := by
      have := congrArg (fun l => l[0]?) hdrop
      simpa using this
    have hdrop' : (rn s).drop (i + 1) = rn (s.drop (pos + w)) := by
      rw [← List.drop_drop, hdrop]; rfl
    simp only [List.length_cons] at hi
    simp -implicitDefEqProofs (disch := omega) only [↓ZD,ZP,cnd_t,cnd_f,↓reduceIte,Env.put,stepO,lenV,binV,binInt,unV,loadV,sliceV,boundOf,convV,slstrV,if_pos,if_neg,Int.reduceToNat,Nat.reducePow,V.cells,V.isCell,V.boxable,Nat.reduceEqDiff,reduceCtorEq,reduceIte,ite_self,enterEnv,e0,e6,hit,hlt,hd]
    refine calP_ro rfl (good78 c) rfl ?_
    simp -implicitDefEqProofs (disch := omega) only [↓ZD,ZP,cnd_t,cnd_f,↓reduceIte,Env.put,stepO,lenV,binV,binInt,unV,loadV,sliceV,boundOf,convV,slstrV,if_pos,if_neg,Int.reduceToNat,Nat.reducePow,V.cells,V.isCell,V.boxable,Nat.reduceEqDiff,reduceCtorEq,reduceIte,ite_self,enterEnv,e0,e6]
    refine calP_yld (yld_mono (hyld i _ (pos + w) c hci (hset i H (pos + w) hJ) (get_set_self hl)) ?_)
    rintro r H' ⟨rfl, hJ', hit'⟩
    simp -implicitDefEqProofs (disch := omega) only [↓ZD,ZP,cnd_t,cnd_f,↓reduceIte,Env.put,stepO,lenV,binV,binInt,unV,loadV,sliceV,boundOf,convV,slstrV,if_pos,if_neg,Int.reduceToNat,Nat.reducePow,V.cells,V.isCell,V.boxable,Nat.reduceEqDiff,reduceCtorEq,reduceIte,ite_self,enterEnv,e0,e6]
    exact ⟨_, by omega, pos + w, i + 1, hit', hJ', d2, rfl, hdrop', by omega⟩
  · have hnl : ¬ pos < s.length := by omega
    rw [List.drop_of_length_le hge, rn_nil, List.length_nil, Nat.add_zero] at hi
    subst hi
    simp -implicitDefEqProofs (disch := omega) only [↓ZD,ZP,cnd_t,cnd_f,↓reduceIte,Env.put,stepO,lenV,binV,binInt,unV,loadV,sliceV,boundOf,convV,slstrV,if_pos,if_neg,Int.reduceToNat,Nat.reducePow,V.cells,V.isCell,V.boxable,Nat.reduceEqDiff,reduceCtorEq,reduceIte,ite_self,enterEnv,e0,e6,hit,hnl]
    exact hK _ hJ

/-- Texts, as values. -/
def textItems (l : List Nat) : List V := if l = [] then itemC 32 else (l.map itemC).flatten
def textV (l : List Nat) : V := .agg [.sl false [.int .i64 (l.length : Nat)] 1, .sl false (textItems l) (if l = [] then 1 else l.length)]

/-- What vector's memory holds, behind i items. -/
structure VJ (S : Nat → List Nat → Go.Code → Go.Code → Prop) (e : Env) (l : List Nat) (i : Nat) (H : Heap) : Prop where
  len : 6 ≤ H.length
  two : H[2]? = some (.cells 0 1 true [.int .i64 (i : Nat)])
  out : ∃ v, H[3]? = some (.cells 0 0 true [.view 2 0 0 1, v]) ∧ ((i = 0 ∧ v = .sl true [] 0) ∨ ∃ b g, v = .view b g 0 i ∧ 6 ≤ b ∧ H[b]? = some (.cells g 6 true ((l.take i).map itemC).flatten))
  one : H[1]? = some (.cells 0 0 true [.sl true [] 0, .sl true [] 0])
  loop : H[4]? = some (.loop S [10] e .ready none)
  zero : H[0]? = some (.cells 0 0 true (itemC 32))

theorem vj_set {S : Nat → List Nat → Go.Code → Go.Code → Prop} {e : Env} {l : List Nat} {i : Nat} {H : Heap} {x : HObj} (h : VJ S e l i H) : VJ S e l i (H.set 5 x) := by
  obtain ⟨h1, h2, ⟨v, h3, h4⟩, h5, h6, h7⟩ := h
  refine ⟨by simpa using h1, by rw [get_set_ne (by decide)]; exact h2, ⟨v, by rw [get_set_ne (by decide)]; exact h3, ?_⟩, by rw [get_set_ne (by decide)]; exact h5, by rw [get_set_ne (by decide)]; exact h6, by rw [get_set_ne (by decide)]; exact h7⟩
  rcases h4 with h4 | ⟨b, g, hv, hb, h4⟩
  · exact .inl h4
  · exact .inr ⟨b, g, hv, hb, by rw [get_set_ne (by omega)]; exact h4⟩

theorem items_len : ∀ (l : List Nat) (n : Nat), l.length = n → (l.map itemC).flatten.length = n * 6
  | [], n, h => by subst h; rfl
  | c :: l, n, h => by
    subst h
    rw [List.map_cons, List.flatten_cons, List.length_append, items_len l l.length rfl, List.length_cons]
    show 6 + _ = _
    omega

theorem roL_app : ∀ (a b : List V), roL (a ++ b) = (roL a && roL b)
  | [], b => by simp [roL]
  | x :: a, b => by simp [roL, roL_app a b, Bool.and_assoc]
theorem items_ro : ∀ l : List Nat, roL (l.map itemC).flatten = true
  | [] => rfl
  | c :: l => by rw [List.map_cons, List.flatten_cons, roL_app, items_ro l]; rfl

theorem vj_round {e : Env} {l : List Nat} {i c : Nat} {H : Heap} (e5 : e 5 = .cell 3 0 0) (hc : l[i]? = some c) (hi : i < 4096) (hJ : VJ (Strp Go.Proofs.Try.prog r77_0 r77_1) e l i H) :
    Yld Go.Proofs.Try.prog 4 [.agg (itemC c)] H fun r H' => r = .bool true ∧ VJ (Strp Go.Proofs.Try.prog r77_0 r77_1) e l (i + 1) H' ∧ H'[5]? = H[5]? := by
  obtain ⟨h1, h2, ⟨v, h3, h4⟩, h5, h6, h7⟩ := hJ
  refine yld_go mix h6 rfl fun e₀ he₀ => ?_
  have f5 : e₀ 5 = .cell 3 0 0 := by rw [he₀]; simp [setL, Env.set, e5]
  have f10 : e₀ 10 = .agg (itemC c) := by rw [he₀]; simp [setL, Env.set]
  clear he₀
  generalize hS : Strp Go.Proofs.Try.prog r77_0 r77_1 = S at *
  simp only [r77_0, oQ]
  simp -implicitDefEqProofs (disch := (first | omega | (simp only [List.length_append,List.length_set,List.length_cons,List.length_nil]; try omega; done))) only [↓ZD,ZP,ZL,cnd_t,cnd_f,↓reduceIte,Env.put,stepO,lenV,binV,binInt,unV,loadV,sliceV,boundOf,convV,slstrV,if_pos,if_neg,Int.reduceToNat,Nat.reducePow,V.cells,V.isCell,V.boxable,Nat.reduceEqDiff,reduceCtorEq,reduceIte,ite_self,enterEnv,f5,f10,itemC,fillL,evParts,splice,List.take_zero,List.take_succ_cons,List.drop_succ_cons,List.drop_zero,List.drop_nil]
  refine ⟨none, h6, ?_⟩
  simp only [r77_1, oQ]
  have hi' : (i : Int) ≠ 4096 := by omega
  simp -implicitDefEqProofs (disch := (first | omega | (simp only [List.length_append,List.length_set,List.length_cons,List.length_nil]; try omega; done))) only [↓ZD,ZP,ZL,cnd_t,cnd_f,↓reduceIte,Env.put,stepO,lenV,binV,binInt,unV,loadV,sliceV,boundOf,convV,slstrV,if_pos,if_neg,Int.reduceToNat,Nat.reducePow,V.cells,V.isCell,V.boxable,Nat.reduceEqDiff,reduceCtorEq,reduceIte,ite_self,enterEnv,f5,f10,itemC,fillL,evParts,splice,List.take_zero,List.take_succ_cons,List.drop_succ_cons,List.drop_zero,List.drop_nil,h2,h3,h5,h6]
  rcases h4 with ⟨rfl, rfl⟩ | ⟨b, g, rfl, hb, h4⟩
  · simp -implicitDefEqProofs (disch := (first | omega | (simp only [List.length_append,List.length_set,List.length_cons,List.length_nil]; try omega; done))) only [↓ZD,ZP,ZL,cnd_t,cnd_f,↓reduceIte,Env.put,stepO,lenV,binV,binInt,unV,loadV,sliceV,boundOf,convV,slstrV,if_pos,if_neg,Int.reduceToNat,Nat.reducePow,V.cells,V.isCell,V.boxable,Nat.reduceEqDiff,reduceCtorEq,reduceIte,ite_self,enterEnv,f5,f10,itemC,fillL,evParts,splice,List.take_zero,List.take_succ_cons,List.drop_succ_cons,List.drop_zero,List.drop_nil,h2,h3,h5,h6,appendV,srcCells,readSl]
    refine ⟨⟨.busy, none, by simp -implicitDefEqProofs (disch := (first | omega | (simp only [List.length_append,List.length_set,List.length_cons,List.length_nil]; try omega; done))) only [get_push_at,get_push_eq,set_push,get_push,get_set_ne,get_set_self,len_push,len_set]⟩, rfl, ⟨?_, ?_, ⟨.view (H.length + 1) 0 0 1, ?_, .inr ⟨H.length + 1, 0, rfl, by omega, ?_⟩⟩, ?_, ?_, ?_⟩, ?_⟩
    · simp; omega
    · simp -implicitDefEqProofs (disch := (first | omega | (simp only [List.length_append,List.length_set,List.length_cons,List.length_nil]; try omega; done))) only [get_push_at,get_push_eq,set_push,get_push,get_set_ne,get_set_self,len_push,len_set]
    · simp -implicitDefEqProofs (disch := (first | omega | (simp only [List.length_append,List.length_set,List.length_cons,List.length_nil]; try omega; done))) only [get_push_at,get_push_eq,set_push,get_push,get_set_ne,get_set_self,len_push,len_set]
    · have : l.take 1 = [c] := by
        cases l with
        | nil => simp at hc
        | cons x l => simp at hc; simp [hc]
      rw [this]
      simp -implicitDefEqProofs (disch := (first | omega | (simp only [List.length_append,List.length_set,List.length_cons,List.length_nil]; try omega; done))) only [get_push_at,get_push_eq,set_push,get_push,get_set_ne,get_set_self,len_push,len_set]
      rfl
    · simp -implicitDefEqProofs (disch := (first | omega | (simp only [List.length_append,List.length_set,List.length_cons,List.length_nil]; try omega; done))) only [get_push_at,get_push_eq,set_push,get_push,get_set_ne,get_set_self,len_push,len_set,h5]
    · simp -implicitDefEqProofs (disch := (first | omega | (simp only [List.length_append,List.length_set,List.length_cons,List.length_nil]; try omega; done))) only [get_push_at,get_push_eq,set_push,get_push,get_set_ne,get_set_self,len_push,len_set]
    · simp -implicitDefEqProofs (disch := (first | omega | (simp only [List.length_append,List.length_set,List.length_cons,List.length_nil]; try omega; done))) only [get_push_at,get_push_eq,set_push,get_push,get_set_ne,get_set_self,len_push,len_set,h7]
    · simp -implicitDefEqProofs (disch := (first | omega | (simp only [List.length_append,List.length_set,List.length_cons,List.length_nil]; try omega; done))) only [get_push_at,get_push_eq,set_push,get_push,get_set_ne,get_set_self,len_push,len_set]
  · have hbl := getElem?_lt h4
    have hil := getElem?_lt hc
    have htk : l.take (i + 1) = l.take i ++ [c] := by rw [List.take_add_one, hc]; rfl
    have hfl : ((l.take i).map itemC).flatten.length = i * 6 := items_len _ _ (by rw [List.length_take]; omega)
    have hft : ((l.take i).map itemC).flatten.take (i * 6) = ((l.take i).map itemC).flatten := by rw [← hfl, List.take_length]
    simp -implicitDefEqProofs (disch := (first | omega | (simp only [List.length_append,List.length_set,List.length_cons,List.length_nil]; try omega; done))) only [↓ZD,ZP,ZL,cnd_t,cnd_f,↓reduceIte,Env.put,stepO,lenV,binV,binInt,unV,loadV,sliceV,boundOf,convV,slstrV,if_pos,if_neg,Int.reduceToNat,Nat.reducePow,V.cells,V.isCell,V.boxable,Nat.reduceEqDiff,reduceCtorEq,reduceIte,ite_self,enterEnv,f5,f10,itemC,fillL,evParts,splice,List.take_zero,List.take_succ_cons,List.drop_succ_cons,List.drop_zero,List.drop_nil,h2,h3,h4,h5,h6,appendV,srcCells,readSl,hfl,hft]
    refine ⟨⟨.busy, none, by simp -implicitDefEqProofs (disch := (first | omega | (simp only [List.length_append,List.length_set,List.length_cons,List.length_nil]; try omega; done))) only [get_push_at,get_push_eq,set_push,get_push,get_set_ne,get_set_self,len_push,len_set]⟩, rfl, ⟨?_, ?_, ⟨.view b (g + 1) 0 (i + 1), ?_, .inr ⟨b, g + 1, rfl, hb, ?_⟩⟩, ?_, ?_, ?_⟩, ?_⟩
    · simp; omega
    · simp -implicitDefEqProofs (disch := (first | omega | (simp only [List.length_append,List.length_set,List.length_cons,List.length_nil]; try omega; done))) only [get_push_at,get_push_eq,set_push,get_push,get_set_ne,get_set_self,len_push,len_set]
    · simp -implicitDefEqProofs (disch := (first | omega | (simp only [List.length_append,List.length_set,List.length_cons,List.length_nil]; try omega; done))) only [get_push_at,get_push_eq,set_push,get_push,get_set_ne,get_set_self,len_push,len_set]
    · rw [htk, List.map_append, List.flatten_append]
      simp -implicitDefEqProofs (disch := (first | omega | (simp only [List.length_append,List.length_set,List.length_cons,List.length_nil]; try omega; done))) only [get_push_at,get_push_eq,set_push,get_push,get_set_ne,get_set_self,len_push,len_set]
      rfl
    · simp -implicitDefEqProofs (disch := (first | omega | (simp only [List.length_append,List.length_set,List.length_cons,List.length_nil]; try omega; done))) only [get_push_at,get_push_eq,set_push,get_push,get_set_ne,get_set_self,len_push,len_set,h5]
    · simp -implicitDefEqProofs (disch := (first | omega | (simp only [List.length_append,List.length_set,List.length_cons,List.length_nil]; try omega; done))) only [get_push_at,get_push_eq,set_push,get_push,get_set_ne,get_set_self,len_push,len_set]
    · simp -implicitDefEqProofs (disch := (first | omega | (simp only [List.length_append,List.length_set,List.length_cons,List.length_nil]; try omega; done))) only [get_push_at,get_push_eq,set_push,get_push,get_set_ne,get_set_self,len_push,len_set,h7]
    · simp -implicitDefEqProofs (disch := (first | omega | (simp only [List.length_append,List.length_set,List.length_cons,List.length_nil]; try omega; done))) only [get_push_at,get_push_eq,set_push,get_push,get_set_ne,get_set_self,len_push,len_set]

theorem good77 (s : List UInt8) (hs : s.length ≤ 100000) (hn : (rn s).length ≤ 4096) : Good Go.Proofs.Try.prog 77 [.agg (itemC 32), .fn 79 [] [.rptr [.str s] 0]] (textV (rn s)) := by
  refine good_go mix s77 (Nat.le_of_ble_eq_true rfl) fun e he => ?_
  have e0 : e 0 = .agg (itemC 32) := he 0
  have e1 : e 1 = .fn 79 [] [.rptr [.str s] 0] := he 1
  clear he
  simp only [c77,b77, oQ]
  simp -implicitDefEqProofs (disch := omega) only [↓ZD,ZP,cnd_t,cnd_f,↓reduceIte,Env.put,stepO,lenV,binV,binInt,unV,loadV,sliceV,boundOf,convV,slstrV,if_pos,if_neg,Int.reduceToNat,Nat.reducePow,V.cells,V.isCell,V.boxable,Nat.reduceEqDiff,reduceCtorEq,reduceIte,ite_self,enterEnv,e0,e1,itemC,fillL,evParts,splice,List.take_zero,List.take_succ_cons,List.drop_succ_cons,List.drop_zero,List.drop_nil,Nat.reduceAdd]
  refine rng_env fun e' he' => rng_heap (call79 s 4 _ _ (VJ (Strp Go.Proofs.Try.prog r77_0 r77_1) e' (rn s)) (by omega) ⟨by simp, rfl, ⟨_, rfl, .inl ⟨rfl, rfl⟩⟩, rfl, rfl, rfl⟩ (fun i H pos hJ => vj_set hJ) (fun i H hJ => hJ.len) ?_ ?_)
  · intro i H pos c hc hJ hit
    refine yld_mono (vj_round ?_ hc ?_ hJ) ?_
    · rw [he']; simp [Env.set]
    · have := getElem?_lt hc
      omega
    · rintro r H' ⟨hr, hJ', h5⟩
      exact ⟨hr, hJ', h5.trans hit⟩
  · intro H hJ
    obtain ⟨h1, h2, ⟨v, h3, h4⟩, h5, h6, h7⟩ := hJ
    refine after_n h6 (by decide) ?_
    have f2 : e' 2 = .cell 0 0 0 := by rw [he']; simp [Env.set]
    have f4 : e' 4 = .cell 1 0 0 := by rw [he']; simp [Env.set]
    have f5 : e' 5 = .cell 3 0 0 := by rw [he']; simp [Env.set]
    clear he'
    generalize Strp Go.Proofs.Try.prog r77_0 r77_1 = S at *
    generalize hl : rn s = l at *
    rcases h4 with ⟨hz, rfl⟩ | ⟨b, g, rfl, hb, h4⟩
    · have hl0 := List.length_eq_zero_iff.1 hz
      subst hl0
      simp -implicitDefEqProofs (disch := (first | omega | (simp only [List.length_append,List.length_set,List.length_cons,List.length_nil]; try omega; done))) only [↓ZD,ZP,ZL,cnd_t,cnd_f,↓reduceIte,Env.put,stepO,lenV,binV,binInt,unV,loadV,sliceV,boundOf,convV,slstrV,if_pos,if_neg,Int.reduceToNat,Nat.reducePow,V.cells,V.isCell,V.boxable,Nat.reduceEqDiff,reduceCtorEq,reduceIte,ite_self,enterEnv,f2,f4,f5,h2,h3,h5,h6,h7,itemC,fillL,evParts,splice,List.take_zero,List.take_succ_cons,List.drop_succ_cons,List.drop_zero,List.drop_nil]
      refine gives_lend 1 (v' := .agg [.sl false [.int .i64 0] 1, .sl true [.int .u8 2, .bool false, .sl false [] 0, .sl false [] 0, .int .i32 32, .sl false [] 0] 1]) ?_ rfl rfl
      simp only [lend1,borL,bor]
      simp -implicitDefEqProofs (disch := (first | omega | (simp only [List.length_append,List.length_set,List.length_cons,List.length_nil]; try omega; done))) only [get_push_at,get_push_eq,set_push,get_push,get_set_ne,get_set_self,len_push,len_set,h2]
      rfl
    · have hbl := getElem?_lt h4
      by_cases hz : l.length = 0
      · have hl0 := List.length_eq_zero_iff.1 hz
        subst hl0
        simp -implicitDefEqProofs (disch := (first | omega | (simp only [List.length_append,List.length_set,List.length_cons,List.length_nil]; try omega; done))) only [↓ZD,ZP,ZL,cnd_t,cnd_f,↓reduceIte,Env.put,stepO,lenV,binV,binInt,unV,loadV,sliceV,boundOf,convV,slstrV,if_pos,if_neg,Int.reduceToNat,Nat.reducePow,V.cells,V.isCell,V.boxable,Nat.reduceEqDiff,reduceCtorEq,reduceIte,ite_self,enterEnv,f2,f4,f5,h2,h3,h5,h6,h7,itemC,fillL,evParts,splice,List.take_zero,List.take_succ_cons,List.drop_succ_cons,List.drop_zero,List.drop_nil]
        refine gives_lend 1 (v' := .agg [.sl false [.int .i64 0] 1, .sl true [.int .u8 2, .bool false, .sl false [] 0, .sl false [] 0, .int .i32 32, .sl false [] 0] 1]) ?_ rfl rfl
        simp only [lend1,borL,bor]
        simp -implicitDefEqProofs (disch := (first | omega | (simp only [List.length_append,List.length_set,List.length_cons,List.length_nil]; try omega; done))) only [get_push_at,get_push_eq,set_push,get_push,get_set_ne,get_set_self,len_push,len_set,h2]
        rfl
      · simp -implicitDefEqProofs (disch := (first | omega | (simp only [List.length_append,List.length_set,List.length_cons,List.length_nil]; try omega; done))) only [↓ZD,ZP,ZL,cnd_t,cnd_f,↓reduceIte,Env.put,stepO,lenV,binV,binInt,unV,loadV,sliceV,boundOf,convV,slstrV,if_pos,if_neg,Int.reduceToNat,Nat.reducePow,V.cells,V.isCell,V.boxable,Nat.reduceEqDiff,reduceCtorEq,reduceIte,ite_self,enterEnv,f2,f4,f5,h2,h3,h4,h5,h6,h7,itemC,fillL,evParts,splice,List.take_zero,List.take_succ_cons,List.drop_succ_cons,List.drop_zero,List.drop_nil]
        have hne : ¬ l = [] := fun h => hz (by rw [h]; rfl)
        rw [List.take_length] at h4
        have hfl : (l.map itemC).flatten.length = l.length * 6 := items_len _ _ rfl
        have hft : (l.map itemC).flatten.take (l.length * 6) = (l.map itemC).flatten := by rw [← hfl, List.take_length]
        rw [textV, textItems, if_neg hne, if_neg hne]
        refine gives_lend 1 (v' := .agg [.sl false [.int .i64 (l.length : Nat)] 1, .sl false (l.map itemC).flatten l.length]) ?_ ?_ ?_
        · simp only [lend1,borL,bor]
          simp -implicitDefEqProofs (disch := (first | omega | (simp only [List.length_append,List.length_set,List.length_cons,List.length_nil]; try omega; done))) only [get_push_at,get_push_eq,set_push,get_push,get_set_ne,get_set_self,len_push,len_set,h2,h4,if_true,List.drop_zero,hft]
          rfl
        · simp only [V.ro,roL,items_ro]; rfl
        · rfl

theorem textV_ro (l : List Nat) : (textV l).ro = true := by
  simp only [textV,V.ro,roL]
  unfold textItems
  split
  · rfl
  · simp only [items_ro]; rfl

theorem good50 (s : List UInt8) (hs : s.length ≤ 100000) (hn : (rn s).length ≤ 4096) : Good Go.Proofs.Try.prog 50 [.str s] (textV (rn s)) := by
  refine good_go mix s50 (Nat.le_of_ble_eq_true rfl) fun e he => ?_
  have e0 : e 0 = .str s := he 0
  clear he
  simp only [c50,b50, oQ]
  simp -implicitDefEqProofs (disch := omega) only [↓ZD,ZP,cnd_t,cnd_f,↓reduceIte,Env.put,stepO,lenV,binV,binInt,unV,loadV,sliceV,boundOf,convV,slstrV,if_pos,if_neg,Int.reduceToNat,Nat.reducePow,V.cells,V.isCell,V.boxable,Nat.reduceEqDiff,reduceCtorEq,reduceIte,ite_self,enterEnv,e0,fillL,evParts,splice,List.take_zero,List.take_succ_cons,List.drop_succ_cons,List.drop_zero,List.drop_nil]
  refine calP_ro rfl (good78 32) rfl ?_
  simp -implicitDefEqProofs (disch := omega) only [↓ZD,ZP,cnd_t,cnd_f,↓reduceIte,Env.put,stepO,lenV,binV,binInt,unV,loadV,sliceV,boundOf,convV,slstrV,if_pos,if_neg,Int.reduceToNat,Nat.reducePow,V.cells,V.isCell,V.boxable,Nat.reduceEqDiff,reduceCtorEq,reduceIte,ite_self,enterEnv,e0,fillL,evParts,splice,List.take_zero,List.take_succ_cons,List.drop_succ_cons,List.drop_zero,List.drop_nil]
  have hg := good77 s hs hn
  have hro := textV_ro (rn s)
  have hcell : (V.agg (itemC 32)).ro = true := rfl
  have hsp : ∃ a b, textV (rn s) = .agg [.sl false a 1, .sl false b (if rn s = [] then 1 else (rn s).length)] := ⟨_, _, rfl⟩
  have hw : (textV (rn s)).weak = textV (rn s) := rfl
  obtain ⟨a, b, hab⟩ := hsp
  rw [hab] at hg hro hw ⊢
  refine calP_lr 1 (as' := [.agg (itemC 32), .fn 79 [] [.rptr [.str s] 0]]) (H' := [.cells 0 0 false [.str s], .cells 0 0 true [.sl true [] 0, .sl true [] 0]]) rfl rfl hg hro fun H'' hH => ?_
  rcases hH with rfl | rfl
  · simp -implicitDefEqProofs (disch := omega) only [↓ZD,ZP,cnd_t,cnd_f,↓reduceIte,Env.put,stepO,lenV,binV,binInt,unV,loadV,sliceV,boundOf,convV,slstrV,if_pos,if_neg,Int.reduceToNat,Nat.reducePow,V.cells,V.isCell,V.boxable,Nat.reduceEqDiff,reduceCtorEq,reduceIte,ite_self,enterEnv,e0,fillL,evParts,splice,List.take_zero,List.take_succ_cons,List.drop_succ_cons,List.drop_zero,List.drop_nil]
    exact gives_eq hro hw.symm
  · simp -implicitDefEqProofs (disch := omega) only [↓ZD,ZP,cnd_t,cnd_f,↓reduceIte,Env.put,stepO,lenV,binV,binInt,unV,loadV,sliceV,boundOf,convV,slstrV,if_pos,if_neg,Int.reduceToNat,Nat.reducePow,V.cells,V.isCell,V.boxable,Nat.reduceEqDiff,reduceCtorEq,reduceIte,ite_self,enterEnv,e0,fillL,evParts,splice,List.take_zero,List.take_succ_cons,List.drop_succ_cons,List.drop_zero,List.drop_nil]
    exact gives_eq hro hw.symm
end Fe
