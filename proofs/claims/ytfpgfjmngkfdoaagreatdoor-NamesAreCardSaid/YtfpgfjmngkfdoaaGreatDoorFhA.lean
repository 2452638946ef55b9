/-
  Contracts: numbers by the reference; contracts; contracts; contracts; contracts. No condition.
-/
import Derived.Test.YtfpgfjmngkfdoaaGreatDoorFgL
set_option linter.unusedSimpArgs false
set_option linter.unusedVariables false
open Go Go.Proofs
namespace Fe
def b512 : C :=
 (.seq
 (.region false [
 oQ 2 (.mov (.c (.sl true [] 0)))])
 (.seq
 (.region false [
 oQ 5 (.mov (.t 0)),
 oQ 6 (.len false (.t 5)),
 oQ 3 (.mov (.t 6))])
 (.seq
 (.block 0
 (.loop
 (.seq
 (.seq
 (.region false [
 oQ 7 (.mov (.t 3)),
 oQ 8 (.bin 0 .gtr (.t 7) (.c (.int .i64 0))),
 oQ 9 (.mov (.t 8)),
 ⟨some 10, .op (.mov (.t 0)), some (9, true)⟩,
 ⟨some 11, .op (.mov (.t 3)), some (9, true)⟩,
 ⟨some 12, .op (.bin 0 .sub (.t 11) (.c (.int .i64 1))), some (9, true)⟩,
 ⟨some 13, .op (.iaddr 1 (.t 10) (.t 12)), some (9, true)⟩,
 ⟨some 14, .op (.load false 1 (.t 13)), some (9, true)⟩,
 ⟨some 15, .op (.bin 0 .eql (.t 14) (.c (.int .u32 0))), some (9, true)⟩,
 oQ 16 (.pick (.t 9) (.t 15) (.c (.bool false)))])
 (.cond (.t 16)
 .skip
 (.exit 0)))
 (.block 1
 (.region false [
 oQ 17 (.mov (.t 3)),
 oQ 18 (.bin 0 .sub (.t 17) (.c (.int .i64 1))),
 oQ 3 (.mov (.t 18))])))))
 (.seq
 (.region false [
 oQ 4 (.mov (.c (.sl true [] 0)))])
 (.seq
 (.region false [
 oQ 19 (.mov (.t 4)),
 oQ 20 (.mov (.t 0)),
 oQ 21 (.mov (.t 3)),
 oQ 22 (.slice 1 (.t 20) none (some (.t 21)) none),
 oQ 23 (.append 1 4 (.t 19) (.t 22)),
 oQ 2 (.mov (.t 23))])
 .ret)))))
def c512 : CF := ⟨24, 1, [.mov (.t 2)], b512⟩
def b511 : C :=
 (.seq
 (.region false [
 oQ 2 (.mov (.c (.sl true [] 0)))])
 (.seq
 (.region false [
 oQ 3 (.mov (.t 0)),
 oQ 4 (.conv (.int .u32) (.t 3)),
 oQ 5 (.mov (.t 0)),
 oQ 6 (.bin 0 .shr (.t 5) (.c (.int .u64 32))),
 oQ 7 (.conv (.int .u32) (.t 6)),
 oQ 8 (.mksl [.int .u32 0, .int .u32 0] 2 [(0, (1, .t 4)), (1, (1, .t 7))]),
 ⟨some 9, .call false (.c (.fn 269 [] [])) [.t 8], none⟩,
 oQ 2 (.mov (.t 9))])
 .ret))
def c511 : CF := ⟨10, 1, [.mov (.t 2)], b511⟩
def b515 : C :=
 (.seq
 (.region false [
 oQ 4 (.mov (.c (.int .u64 0)))])
 (.seq
 (.seq
 (.region false [
 oQ 5 (.mov (.t 1)),
 oQ 6 (.mov (.t 0)),
 oQ 7 (.len false (.t 6)),
 oQ 8 (.bin 0 .lss (.t 5) (.t 7))])
 (.cond (.t 8)
 (.seq
 (.region false [
 oQ 9 (.mov (.t 0)),
 oQ 10 (.mov (.t 1)),
 oQ 11 (.iaddr 1 (.t 9) (.t 10)),
 oQ 12 (.load false 1 (.t 11)),
 oQ 13 (.conv (.int .u64) (.t 12)),
 oQ 4 (.mov (.t 13))])
 .ret)
 .skip))
 (.seq
 (.region false [
 oQ 4 (.mov (.c (.int .u64 0)))])
 .ret)))
def c515 : CF := ⟨14, 2, [.mov (.t 4)], b515⟩
def b480 : C :=
 (.seq
 (.region false [
 oQ 4 (.mov (.c (.sl true [] 0)))])
 (.seq
 (.region false [
 oQ 5 (.mov (.c (.sl true [] 0)))])
 (.seq
 (.region false [
 oQ 6 (.mov (.c (.int .u64 0)))])
 (.seq
 (.seq
 (.region false [
 oQ 7 (.mov (.c (.int .i64 0)))])
 (.block 0
 (.loop
 (.seq
 (.seq
 (.region false [
 oQ 9 (.mov (.t 7)),
 oQ 10 (.mov (.t 0)),
 oQ 11 (.len false (.t 10)),
 oQ 12 (.bin 0 .lss (.t 9) (.t 11)),
 oQ 13 (.mov (.t 12)),
 ⟨some 14, .op (.mov (.t 7)), some (13, false)⟩,
 ⟨some 15, .op (.mov (.t 1)), some (13, false)⟩,
 ⟨some 16, .op (.len false (.t 15)), some (13, false)⟩,
 ⟨some 17, .op (.bin 0 .lss (.t 14) (.t 16)), some (13, false)⟩,
 oQ 18 (.pick (.t 13) (.c (.bool true)) (.t 17)),
 oQ 19 (.mov (.t 18)),
 ⟨some 20, .op (.mov (.t 6)), some (19, false)⟩,
 ⟨some 21, .op (.bin 0 .gtr (.t 20) (.c (.int .u64 0))), some (19, false)⟩,
 oQ 22 (.pick (.t 19) (.c (.bool true)) (.t 21))])
 (.cond (.t 22)
 .skip
 (.exit 0)))
 (.seq
 (.block 1
 (.seq
 (.region false [
 oQ 25 (.mov (.t 0)),
 oQ 26 (.mov (.t 7)),
 ⟨some 27, .call false (.c (.fn 272 [] [])) [.t 25, .t 26], none⟩,
 oQ 28 (.mov (.t 1)),
 oQ 29 (.mov (.t 7)),
 ⟨some 30, .call false (.c (.fn 272 [] [])) [.t 28, .t 29], none⟩,
 oQ 31 (.bin 0 .add (.t 27) (.t 30)),
 oQ 32 (.mov (.t 6)),
 oQ 33 (.bin 0 .add (.t 31) (.t 32)),
 oQ 8 (.mov (.t 33))])
 (.seq
 (.region false [
 oQ 34 (.mov (.t 5)),
 oQ 35 (.mov (.t 8)),
 oQ 36 (.conv (.int .u32) (.t 35)),
 oQ 37 (.mksl [.int .u32 0] 1 [(0, (1, .t 36))]),
 oQ 38 (.append 1 4 (.t 34) (.t 37)),
 oQ 5 (.mov (.t 38))])
 (.region false [
 oQ 39 (.mov (.t 8)),
 oQ 40 (.bin 0 .shr (.t 39) (.c (.int .u64 32))),
 oQ 6 (.mov (.t 40))]))))
 (.region false [
 oQ 23 (.mov (.t 7)),
 oQ 24 (.bin 0 .add (.t 23) (.c (.int .i64 1))),
 oQ 7 (.mov (.t 24))]))))))
 (.seq
 (.region false [
 oQ 41 (.mov (.t 5)),
 ⟨some 42, .call false (.c (.fn 269 [] [])) [.t 41], none⟩,
 oQ 4 (.mov (.t 42))])
 .ret)))))
def c480 : CF := ⟨43, 2, [.mov (.t 4)], b480⟩
theorem s512 : stripF Go.Proofs.Tryz.prog 269 = some c512 := by kernel_rfl
theorem s511 : stripF Go.Proofs.Tryz.prog 268 = some c511 := by kernel_rfl
theorem s515 : stripF Go.Proofs.Tryz.prog 272 = some c515 := by kernel_rfl
theorem s480 : stripF Go.Proofs.Tryz.prog 218 = some c480 := by kernel_rfl

/-- A growing list of limbs, in memory. -/
def NatAt (H : Heap) (v : V) (l : List Nat) : Prop := (l = [] ∧ v = .sl true [] 0) ∨ ∃ b g, v = .view b g 0 l.length ∧ b < H.length ∧ H[b]? = some (.cells g 1 true (nl l))
theorem nl_take (l : List Nat) : (nl l).take l.length = nl l := by rw [← nl_len l, List.take_length]

theorem calP_at {P : Program} {f : FuncId} {r v : V} {H : Heap} {l : List Nat} {d : Option Nat} {lim' : Option Nat} {os : List Op} {e : Env} {S : List Fr} {K : Cont} (h : NatAt H v l) (hg : ∀ ex, Good P f [nsl ex l] r) (hr : r.ro = true) (k : ∀ H'', ops P lim' os (e.put d r) H'' S K) :
    calP P (.fn f [] []) [v] d lim' os e H S K := by
  rcases h with ⟨rfl, rfl⟩ | ⟨b, g, rfl, _, hb⟩
  · exact calP_ro (nl_ro_1 true []) (hg true) hr (k _)
  · refine calP_lr 1 (as' := [nf l]) (H' := (lend 1 H [.view b g 0 l.length]).1) ?_ (nl_ro_1 false l) (hg false) hr fun H'' _ => k H''
    simp only [lend1,borL,bor,hb,if_true,List.drop_zero,Nat.mul_one,nl_take,nf,nsl]

theorem gives_at {H : Heap} {v : V} {l : List Nat} (h : NatAt H v l) : Gives H v (nf l) := by
  rcases h with ⟨rfl, rfl⟩ | ⟨b, g, rfl, _, hb⟩
  · exact gives_eq rfl rfl
  · refine gives_lend 1 (v' := nf l) ?_ (nf_ro l) rfl
    simp only [lend1,borL,bor,hb,if_true,List.drop_zero,Nat.mul_one,nl_take,nf,nsl]

theorem natAt_new {H : Heap} {g n : Nat} {l : List Nat} (hn : n = l.length) : NatAt (H ++ [.cells g 1 true (nl l)]) (.view H.length g 0 n) l := .inr ⟨H.length, g, by rw [hn], by simp, by simp⟩

theorem good512 (ex : Bool) (l : List Nat) (hlen : l.length ≤ 1100000) : Good Go.Proofs.Tryz.prog 269 [nsl ex l] (nf (cut l)) := by
  refine good_go mix s512 (Nat.le_of_ble_eq_true rfl) fun e he => ?_
  have e0 : e 0 = nsl ex l := he 0
  clear he
  simp only [c512,b512, oQ]
  simp -implicitDefEqProofs (disch := omega) only [↓ZD,ZP,cnd_t,cnd_f,↓reduceIte,Env.put,stepO,lenV,binV,binInt,unV,loadV,sliceV,boundOf,convV,slstrV,if_pos,if_neg,Int.reduceToNat,Nat.reducePow,V.cells,V.isCell,V.boxable,Nat.reduceEqDiff,reduceCtorEq,reduceIte,ite_self,enterEnv,e0,nsl]
  refine go_loop (fun m e H => ∃ r z, l = r ++ z ∧ m = r.length ∧ cut r = cut l ∧ e 0 = .sl ex (nl l) l.length ∧ e 3 = .int .i64 (r.length : Nat)) l.length ⟨l, [], by simp, rfl, rfl, ?_, ?_⟩ ?_
  · simp [Env.set, e0, nsl]
  · simp [Env.set]
  rintro m e H ⟨r, z, hl, rfl, hc, e0, e3⟩
  rcases List.eq_nil_or_concat r with rfl | ⟨r, x, rfl⟩
  · simp -implicitDefEqProofs (disch := omega) only [↓ZD,ZP,cnd_t,cnd_f,↓reduceIte,Env.put,stepO,lenV,binV,binInt,unV,loadV,sliceV,boundOf,convV,slstrV,if_pos,if_neg,Int.reduceToNat,Nat.reducePow,V.cells,V.isCell,V.boxable,Nat.reduceEqDiff,reduceCtorEq,reduceIte,ite_self,enterEnv,e0,e3,fillL,evParts,splice,List.take_zero,List.take_succ_cons,List.drop_succ_cons,List.drop_zero,List.drop_nil,appendV,srcCells,readSl,nl_len,Int.sub_self,Int.toNat_zero,List.take_zero]
    exact gives_eq rfl (by rw [← hc]; rfl)
  · rw [List.concat_eq_append] at *
    have hlr : l.length = r.length + 1 + z.length := by rw [hl]; simp; omega
    have hn1 : ((r.length + 1 : Nat) : Int) - 1 = ((r.length : Nat) : Int) := by omega
    have hat : (nl l)[r.length]? = some (limb x) := by rw [hl]; simp [nl]
    by_cases hx : x = 0
    · subst hx
      simp -implicitDefEqProofs (disch := omega) only [↓ZD,ZP,cnd_t,cnd_f,↓reduceIte,Env.put,stepO,lenV,binV,binInt,unV,loadV,sliceV,boundOf,convV,slstrV,if_pos,if_neg,Int.reduceToNat,Nat.reducePow,V.cells,V.isCell,V.boxable,Nat.reduceEqDiff,reduceCtorEq,reduceIte,ite_self,enterEnv,e0,e3,hat,limb,hn1]
      exact ⟨r.length, by omega, r, 0 :: z, by rw [hl]; simp, rfl, by rw [← hc, cut_last, if_pos rfl], rfl⟩
    · have hcl : cut l = r ++ [x] := by rw [← hc, cut_last, if_neg hx]
      have hz : (((r.length + 1 : Nat) : Int) - ((0 : Nat) : Int)).toNat = r.length + 1 := by omega
      have htk : (nl l).take (r.length + 1) = nl (r ++ [x]) := by
        have := nl_take (r ++ [x])
        rw [List.length_append, List.length_singleton] at this
        rw [hl, nl_app, List.take_append_of_le_length (by rw [nl_len]; simp), this]
      have hne : (nl (r ++ [x])).length = r.length + 1 := by rw [nl_len]; simp
      simp -implicitDefEqProofs (disch := omega) only [↓ZD,ZP,cnd_t,cnd_f,↓reduceIte,Env.put,stepO,lenV,binV,binInt,unV,loadV,sliceV,boundOf,convV,slstrV,if_pos,if_neg,Int.reduceToNat,Nat.reducePow,V.cells,V.isCell,V.boxable,Nat.reduceEqDiff,reduceCtorEq,reduceIte,ite_self,enterEnv,e0,e3,hat,limb,hn1,fillL,evParts,splice,List.take_zero,List.take_succ_cons,List.drop_succ_cons,List.drop_zero,List.drop_nil,appendV,srcCells,readSl,nl_len,hz,htk,hne]
      rw [hcl]
      exact gives_at (natAt_new (by simp))

theorem lim512 (ex : Bool) (l : List Nat) (hl : Lm l) (hlen : l.length ≤ 1100000) : Good Go.Proofs.Tryz.prog 269 [nsl ex l] (nf (lim (val l))) := by
  rw [← cut_lim hl]; exact good512 ex l hlen

theorem good511 (n : Nat) (h : n < 18446744073709551616) : Good Go.Proofs.Tryz.prog 268 [.int .u64 n] (nf (lim n)) := by
  refine good_go mix s511 (Nat.le_of_ble_eq_true rfl) fun e he => ?_
  have e0 : e 0 = .int .u64 n := he 0
  clear he
  simp only [c511,b511, oQ]
  simp -implicitDefEqProofs (disch := omega) only [↓ZD,ZP,cnd_t,cnd_f,↓reduceIte,Env.put,stepO,lenV,binV,binInt,unV,loadV,sliceV,boundOf,convV,slstrV,if_pos,if_neg,Int.reduceToNat,Nat.reducePow,V.cells,V.isCell,V.boxable,Nat.reduceEqDiff,reduceCtorEq,reduceIte,ite_self,enterEnv,e0,w32,shr_c,fillL,evParts,splice,List.take_zero,List.take_succ_cons,List.drop_succ_cons,List.drop_zero,List.drop_nil]
  have hv : val [n % 4294967296, n / 4294967296] = n := by simp only [val]; omega
  have hg := lim512 true [n % 4294967296, n / 4294967296] (by intro x hx; simp at hx; rcases hx with rfl | rfl <;> omega) (by simp)
  rw [hv] at hg
  refine calP_ro (nl_ro_1 true [n % 4294967296, n / 4294967296]) hg (nf_ro _) ?_
  simp -implicitDefEqProofs (disch := omega) only [↓ZD,ZP,cnd_t,cnd_f,↓reduceIte,Env.put,stepO,lenV,binV,binInt,unV,loadV,sliceV,boundOf,convV,slstrV,if_pos,if_neg,Int.reduceToNat,Nat.reducePow,V.cells,V.isCell,V.boxable,Nat.reduceEqDiff,reduceCtorEq,reduceIte,ite_self,enterEnv]
  exact gives_eq (nf_ro _) rfl

theorem getD_lt {a : List Nat} (ha : Lm a) (i : Nat) : a.getD i 0 < 4294967296 := by
  rw [List.getD_eq_getElem?_getD]
  cases h : a[i]? with
  | none => simp
  | some x => exact ha x (List.mem_of_getElem? h)
theorem val_drop (a : List Nat) (i : Nat) : val (a.drop i) = a.getD i 0 + 4294967296 * val (a.drop (i + 1)) := by
  rcases Nat.lt_or_ge i a.length with h | h
  · rw [List.drop_eq_getElem_cons h, val, List.getD_eq_getElem?_getD, List.getElem?_eq_getElem h]; rfl
  · rw [List.drop_eq_nil_of_le h, List.drop_eq_nil_of_le (by omega), List.getD_eq_getElem?_getD, List.getElem?_eq_none h]; simp [val]

theorem good515 (ex : Bool) (a : List Nat) (i : Nat) (ha : Lm a) (hl : a.length ≤ 1100000) (hi : i ≤ 3000000) : Good Go.Proofs.Tryz.prog 272 [nsl ex a, .int .i64 (i : Nat)] (.int .u64 (a.getD i 0 : Nat)) := by
  refine good_go mix s515 (Nat.le_of_ble_eq_true rfl) fun e he => ?_
  have e0 : e 0 = nsl ex a := he 0
  have e1 : e 1 = .int .i64 (i : Nat) := he 1
  clear he
  simp only [c515,b515, oQ]
  have hlt := getD_lt ha i
  rcases Nat.lt_or_ge i a.length with h | h
  · have hat : (nl a)[i]? = some (limb (a.getD i 0)) := nl_get (by rw [List.getD_eq_getElem?_getD, List.getElem?_eq_getElem h]; rfl)
    simp -implicitDefEqProofs (disch := omega) only [↓ZD,ZP,cnd_t,cnd_f,↓reduceIte,Env.put,stepO,lenV,binV,binInt,unV,loadV,sliceV,boundOf,convV,slstrV,if_pos,if_neg,Int.reduceToNat,Nat.reducePow,V.cells,V.isCell,V.boxable,Nat.reduceEqDiff,reduceCtorEq,reduceIte,ite_self,enterEnv,e0,e1,nsl,hat,limb]
    exact gives_eq rfl rfl
  · have hz : a.getD i 0 = 0 := by rw [List.getD_eq_getElem?_getD, List.getElem?_eq_none h]; rfl
    simp -implicitDefEqProofs (disch := omega) only [↓ZD,ZP,cnd_t,cnd_f,↓reduceIte,Env.put,stepO,lenV,binV,binInt,unV,loadV,sliceV,boundOf,convV,slstrV,if_pos,if_neg,Int.reduceToNat,Nat.reducePow,V.cells,V.isCell,V.boxable,Nat.reduceEqDiff,reduceCtorEq,reduceIte,ite_self,enterEnv,e0,e1,nsl]
    exact gives_eq rfl (by rw [hz]; rfl)

theorem add_step {B K vO vA vB c lo hi x y A' B' T : Nat} (hB : B = 4294967296) (hs : x + y + c = lo + B * hi) (hA : vA = x + B * A') (hBv : vB = y + B * B') (h : vO + K * (vA + vB + c) = T) :
    vO + K * lo + K * B * (A' + B' + hi) = T := by
  rw [← h, Nat.add_assoc, Nat.mul_assoc, ← Nat.mul_add]
  have : lo + B * (A' + B' + hi) = vA + vB + c := by
    rw [hA, hBv, Nat.mul_add, Nat.mul_add]; omega
  rw [this]

theorem append_at {H : Heap} {v : V} {O : List Nat} (h : NatAt H v O) (y : Nat) (ex : Bool) (hl : O.length ≤ 100000000) :
    ∃ v' H', appendV 1 4 H v (.sl ex [.int .u32 (y : Nat)] 1) = some (v', H') ∧ NatAt H' v' (O ++ [y]) := by
  rcases h with ⟨rfl, rfl⟩ | ⟨b, g, rfl, hb, hH⟩
  · exact ⟨.view H.length 0 0 1, H ++ [.cells 0 1 true (nl [y])], by simp [appendV, srcCells, readSl, nl, limb], natAt_new rfl⟩
  · refine ⟨.view b (g + 1) 0 (O.length + 1), H.set b (.cells (g + 1) 1 true (nl (O ++ [y]))), ?_, .inr ⟨b, g + 1, by simp, by simpa using hb, by simp [hb]⟩⟩
    have hc : (nl O).length = O.length := nl_len O
    have hy : nl [y] = [.int .u32 (y : Nat)] := rfl
    have q1 : O.length ≤ (nl O).length := by omega
    have q2 : (O.length + 1) * 4 ≤ 140737488355328 := by omega
    have q3 : O.length + 1 ≤ 9223372036854775807 := by omega
    simp [appendV, srcCells, readSl, hH, nl_take, nl_app, hy, V.isCell, q1, q2, q3]

set_option maxHeartbeats 1000000 in
theorem good480 (exa exb : Bool) (a b : List Nat) (ha : Lm a) (hb : Lm b) (hla : a.length ≤ 1000000) (hlb : b.length ≤ 1000000) : Good Go.Proofs.Tryz.prog 218 [nsl exa a, nsl exb b] (nf (lim (val a + val b))) := by
  refine good_go mix s480 (Nat.le_of_ble_eq_true rfl) fun e he => ?_
  have e0 : e 0 = nsl exa a := he 0
  have e1 : e 1 = nsl exb b := he 1
  clear he
  simp only [c480,b480, oQ]
  simp -implicitDefEqProofs (disch := omega) only [↓ZD,ZP,cnd_t,cnd_f,↓reduceIte,Env.put,stepO,lenV,binV,binInt,unV,loadV,sliceV,boundOf,convV,slstrV,if_pos,if_neg,Int.reduceToNat,Nat.reducePow,V.cells,V.isCell,V.boxable,Nat.reduceEqDiff,reduceCtorEq,reduceIte,ite_self,enterEnv,e0,e1]
  refine go_loop (fun m e H => ∃ O c v, NatAt H v O ∧ Lm O ∧ c ≤ 1 ∧ O.length ≤ max a.length b.length + 1 ∧ (c = 0 ∨ O.length ≤ max a.length b.length) ∧ m = 2 * (max a.length b.length - O.length) + c ∧ val O + 4294967296 ^ O.length * (val (a.drop O.length) + val (b.drop O.length) + c) = val a + val b ∧
      e 0 = nsl exa a ∧ e 1 = nsl exb b ∧ e 5 = v ∧ e 6 = .int .u64 (c : Nat) ∧ e 7 = .int .i64 (O.length : Nat))
    (2 * (max a.length b.length)) ⟨[], 0, _, .inl ⟨rfl, rfl⟩, (fun x hx => (List.not_mem_nil hx).elim), by decide, by simp, .inl rfl, by simp, by simp [val], ?_, ?_, ?_, ?_, ?_⟩ ?_
  · simp [Env.set, e0]
  · simp [Env.set, e1]
  · simp [Env.set]
  · simp [Env.set]
  · simp [Env.set]
  clear e0 e1
  rintro m e H ⟨O, c, v, hO, hOm, hc, hOl, hOc, rfl, hval, e0, e1, e5, e6, e7⟩
  by_cases hend : a.length ≤ O.length ∧ b.length ≤ O.length ∧ c = 0
  · obtain ⟨h1, h2, rfl⟩ := hend
    rw [List.drop_eq_nil_of_le h1, List.drop_eq_nil_of_le h2] at hval
    simp -implicitDefEqProofs (disch := omega) only [↓ZD,ZP,cnd_t,cnd_f,↓reduceIte,Env.put,stepO,lenV,binV,binInt,unV,loadV,sliceV,boundOf,convV,slstrV,if_pos,if_neg,Int.reduceToNat,Nat.reducePow,V.cells,V.isCell,V.boxable,Nat.reduceEqDiff,reduceCtorEq,reduceIte,ite_self,enterEnv,e0,e1,e5,e6,e7,nsl]
    refine calP_at hO (fun ex => lim512 ex O hOm (by omega)) (nf_ro _) fun H'' => ?_
    simp -implicitDefEqProofs (disch := omega) only [↓ZD,ZP,cnd_t,cnd_f,↓reduceIte,Env.put,stepO,lenV,binV,binInt,unV,loadV,sliceV,boundOf,convV,slstrV,if_pos,if_neg,Int.reduceToNat,Nat.reducePow,V.cells,V.isCell,V.boxable,Nat.reduceEqDiff,reduceCtorEq,reduceIte,ite_self,enterEnv,e0,e1,e5,e6,e7]
    refine gives_eq (nf_ro _) ?_
    rw [← hval]; rfl
  · have g1 := good515 exa a O.length ha (by omega) (by omega)
    have g2 := good515 exb b O.length hb (by omega) (by omega)
    have hx := getD_lt ha O.length
    have hy := getD_lt hb O.length
    have hda := val_drop a O.length
    have hdb := val_drop b O.length
    have hs := add_step (B := 4294967296) rfl (lo := (a.getD O.length 0 + b.getD O.length 0 + c) % 4294967296) (hi := (a.getD O.length 0 + b.getD O.length 0 + c) / 4294967296) (by omega) hda hdb hval
    have hz : O.length ≤ max a.length b.length ∧ (O.length = max a.length b.length → a.getD O.length 0 = 0 ∧ b.getD O.length 0 = 0 ∧ c = 1) := by
      refine ⟨by omega, fun h => ⟨?_, ?_, by omega⟩⟩
      · rw [List.getD_eq_getElem?_getD, List.getElem?_eq_none (by omega)]; rfl
      · rw [List.getD_eq_getElem?_getD, List.getElem?_eq_none (by omega)]; rfl
    generalize a.getD O.length 0 = x at *
    generalize b.getD O.length 0 = y at *
    have hcond : O.length < a.length ∨ (¬ O.length < a.length ∧ O.length < b.length) ∨ (¬ O.length < a.length ∧ ¬ O.length < b.length ∧ 0 < c) := by omega
    have hq : (x + y + c) / 4294967296 ≤ 1 := by omega
    obtain ⟨v', H', happ, hO'⟩ := append_at hO ((x + y + c) % 4294967296) true (by omega)
    have hOm' : Lm (O ++ [(x + y + c) % 4294967296]) := hOm.app (fun z hz => by rw [List.mem_singleton.1 hz]; exact Nat.mod_lt _ (by decide))
    have hol : (O ++ [(x + y + c) % 4294967296]).length = O.length + 1 := by simp
    have hvs : val (O ++ [(x + y + c) % 4294967296]) + 4294967296 ^ (O.length + 1) * (val (a.drop (O.length + 1)) + val (b.drop (O.length + 1)) + (x + y + c) / 4294967296) = val a + val b := by
      rw [val_snoc, Nat.pow_succ, ← hs, Nat.mul_comm ((x + y + c) % 4294967296)]
    have hd0 : O.length = max a.length b.length → (x + y + c) / 4294967296 = 0 := fun h => by
      obtain ⟨rfl, rfl, rfl⟩ := hz.2 h; decide
    generalize hlo : (x + y + c) % 4294967296 = lo at *
    generalize hhi : (x + y + c) / 4294967296 = hi at *
    have hw : IntKind.u32.wrap ((x + y + c : Nat) : Int) = ((lo : Nat) : Int) := by rw [w32, hlo]
    have fin : ∃ m, m < 2 * (max a.length b.length - O.length) + c ∧ ∃ O' c' v'', NatAt H' v'' O' ∧ Lm O' ∧ c' ≤ 1 ∧ O'.length ≤ max a.length b.length + 1 ∧ (c' = 0 ∨ O'.length ≤ max a.length b.length) ∧ m = 2 * (max a.length b.length - O'.length) + c' ∧ val O' + 4294967296 ^ O'.length * (val (a.drop O'.length) + val (b.drop O'.length) + c') = val a + val b ∧ v'' = v' ∧ c' = hi ∧ O' = O ++ [lo] := by
      refine ⟨_, ?_, O ++ [lo], hi, v', hO', hOm', hq, by rw [hol]; omega, ?_, rfl, by rw [hol]; exact hvs, rfl, rfl, rfl⟩
      · rw [hol]
        rcases Nat.lt_or_ge O.length (max a.length b.length) with h | h
        · omega
        · have h1 := (hz.2 (by omega)).2.2
          have h2 := hd0 (by omega)
          omega
      · rw [hol]
        rcases Nat.lt_or_ge O.length (max a.length b.length) with h | h
        · exact .inr h
        · exact .inl (hd0 (by omega))
    obtain ⟨m', hm', O', c', v'', q1, q2, q3, q4, q5, q6, q7, rfl, rfl, hO2⟩ := fin
    have hn2 : ((O.length + 1 : Nat) : Int) = ((O'.length : Nat) : Int) := by rw [hO2, hol]
    rcases hcond with h1 | ⟨h1, h2⟩ | ⟨h1, h2, h3⟩
    · simp -implicitDefEqProofs (disch := omega) only [↓ZD,ZP,cnd_t,cnd_f,↓reduceIte,Env.put,stepO,lenV,binV,binInt,unV,loadV,sliceV,boundOf,convV,slstrV,if_pos,if_neg,Int.reduceToNat,Nat.reducePow,V.cells,V.isCell,V.boxable,Nat.reduceEqDiff,reduceCtorEq,reduceIte,ite_self,enterEnv,e0,e1,e5,e6,e7,nsl]
      refine calP_ro (by simp [roL, V.ro, nl_ro]) g1 rfl ?_
      simp -implicitDefEqProofs (disch := omega) only [↓ZD,ZP,cnd_t,cnd_f,↓reduceIte,Env.put,stepO,lenV,binV,binInt,unV,loadV,sliceV,boundOf,convV,slstrV,if_pos,if_neg,Int.reduceToNat,Nat.reducePow,V.cells,V.isCell,V.boxable,Nat.reduceEqDiff,reduceCtorEq,reduceIte,ite_self,enterEnv,e0,e1,e5,e6,e7,nsl]
      refine calP_ro (by simp [roL, V.ro, nl_ro]) g2 rfl ?_
      simp -implicitDefEqProofs (disch := omega) only [↓ZD,ZP,cnd_t,cnd_f,↓reduceIte,Env.put,stepO,lenV,binV,binInt,unV,loadV,sliceV,boundOf,convV,slstrV,if_pos,if_neg,Int.reduceToNat,Nat.reducePow,V.cells,V.isCell,V.boxable,Nat.reduceEqDiff,reduceCtorEq,reduceIte,ite_self,enterEnv,e0,e1,e5,e6,e7,nsl,hw,shr_c,fillL,evParts,splice,List.take_zero,List.take_succ_cons,List.drop_succ_cons,List.drop_zero,List.drop_nil,hlo,hhi,happ]
      exact ⟨m', hm', O', _, _, q1, q2, q3, q4, q5, q6, q7, rfl, rfl, hn2 ▸ rfl⟩
    · simp -implicitDefEqProofs (disch := omega) only [↓ZD,ZP,cnd_t,cnd_f,↓reduceIte,Env.put,stepO,lenV,binV,binInt,unV,loadV,sliceV,boundOf,convV,slstrV,if_pos,if_neg,Int.reduceToNat,Nat.reducePow,V.cells,V.isCell,V.boxable,Nat.reduceEqDiff,reduceCtorEq,reduceIte,ite_self,enterEnv,e0,e1,e5,e6,e7,nsl]
      refine calP_ro (by simp [roL, V.ro, nl_ro]) g1 rfl ?_
      simp -implicitDefEqProofs (disch := omega) only [↓ZD,ZP,cnd_t,cnd_f,↓reduceIte,Env.put,stepO,lenV,binV,binInt,unV,loadV,sliceV,boundOf,convV,slstrV,if_pos,if_neg,Int.reduceToNat,Nat.reducePow,V.cells,V.isCell,V.boxable,Nat.reduceEqDiff,reduceCtorEq,reduceIte,ite_self,enterEnv,e0,e1,e5,e6,e7,nsl]
      refine calP_ro (by simp [roL, V.ro, nl_ro]) g2 rfl ?_
      simp -implicitDefEqProofs (disch := omega) only [↓ZD,ZP,cnd_t,cnd_f,↓reduceIte,Env.put,stepO,lenV,binV,binInt,unV,loadV,sliceV,boundOf,convV,slstrV,if_pos,if_neg,Int.reduceToNat,Nat.reducePow,V.cells,V.isCell,V.boxable,Nat.reduceEqDiff,reduceCtorEq,reduceIte,ite_self,enterEnv,e0,e1,e5,e6,e7,nsl,hw,shr_c,fillL,evParts,splice,List.take_zero,List.take_succ_cons,List.drop_succ_cons,List.drop_zero,List.drop_nil,hlo,hhi,happ]
      exact ⟨m', hm', O', _, _, q1, q2, q3, q4, q5, q6, q7, rfl, rfl, hn2 ▸ rfl⟩
    · simp -implicitDefEqProofs (disch := omega) only [↓ZD,ZP,cnd_t,cnd_f,↓reduceIte,Env.put,stepO,lenV,binV,binInt,unV,loadV,sliceV,boundOf,convV,slstrV,if_pos,if_neg,Int.reduceToNat,Nat.reducePow,V.cells,V.isCell,V.boxable,Nat.reduceEqDiff,reduceCtorEq,reduceIte,ite_self,enterEnv,e0,e1,e5,e6,e7,nsl]
      refine calP_ro (by simp [roL, V.ro, nl_ro]) g1 rfl ?_
      simp -implicitDefEqProofs (disch := omega) only [↓ZD,ZP,cnd_t,cnd_f,↓reduceIte,Env.put,stepO,lenV,binV,binInt,unV,loadV,sliceV,boundOf,convV,slstrV,if_pos,if_neg,Int.reduceToNat,Nat.reducePow,V.cells,V.isCell,V.boxable,Nat.reduceEqDiff,reduceCtorEq,reduceIte,ite_self,enterEnv,e0,e1,e5,e6,e7,nsl]
      refine calP_ro (by simp [roL, V.ro, nl_ro]) g2 rfl ?_
      simp -implicitDefEqProofs (disch := omega) only [↓ZD,ZP,cnd_t,cnd_f,↓reduceIte,Env.put,stepO,lenV,binV,binInt,unV,loadV,sliceV,boundOf,convV,slstrV,if_pos,if_neg,Int.reduceToNat,Nat.reducePow,V.cells,V.isCell,V.boxable,Nat.reduceEqDiff,reduceCtorEq,reduceIte,ite_self,enterEnv,e0,e1,e5,e6,e7,nsl,hw,shr_c,fillL,evParts,splice,List.take_zero,List.take_succ_cons,List.drop_succ_cons,List.drop_zero,List.drop_nil,hlo,hhi,happ]
      exact ⟨m', hm', O', _, _, q1, q2, q3, q4, q5, q6, q7, rfl, rfl, hn2 ▸ rfl⟩
end Fe
open Go Go.Proofs
namespace Fe
def b522 : C :=
 (.seq
 (.region false [
 oQ 4 (.mov (.c (.int .i64 0)))])
 (.seq
 (.region false [
 oQ 8 (.mov (.t 0)),
 ⟨some 9, .call false (.c (.fn 269 [] [])) [.t 8], none⟩,
 oQ 10 (.mov (.t 1)),
 ⟨some 11, .call false (.c (.fn 269 [] [])) [.t 10], none⟩,
 oQ 5 (.mov (.t 9)),
 oQ 6 (.mov (.t 11))])
 (.seq
 (.seq
 (.region false [
 oQ 12 (.mov (.t 5)),
 oQ 13 (.len false (.t 12)),
 oQ 14 (.mov (.t 6)),
 oQ 15 (.len false (.t 14)),
 oQ 16 (.bin 0 .neq (.t 13) (.t 15))])
 (.cond (.t 16)
 (.seq
 (.seq
 (.region false [
 oQ 17 (.mov (.t 5)),
 oQ 18 (.len false (.t 17)),
 oQ 19 (.mov (.t 6)),
 oQ 20 (.len false (.t 19)),
 oQ 21 (.bin 0 .lss (.t 18) (.t 20))])
 (.cond (.t 21)
 (.seq
 (.region false [
 oQ 4 (.mov (.c (.int .i64 (-1))))])
 .ret)
 .skip))
 (.seq
 (.region false [
 oQ 4 (.mov (.c (.int .i64 1)))])
 .ret))
 .skip))
 (.seq
 (.seq
 (.region false [
 oQ 22 (.mov (.t 5)),
 oQ 23 (.len false (.t 22)),
 oQ 24 (.bin 0 .sub (.t 23) (.c (.int .i64 1))),
 oQ 7 (.mov (.t 24))])
 (.block 0
 (.loop
 (.seq
 (.seq
 (.region false [
 oQ 25 (.mov (.t 7)),
 oQ 26 (.bin 0 .geq (.t 25) (.c (.int .i64 0)))])
 (.cond (.t 26)
 .skip
 (.exit 0)))
 (.seq
 (.block 1
 (.seq
 (.seq
 (.region true [
 oQ 29 (.mov (.t 5)),
 oQ 30 (.mov (.t 7)),
 oQ 31 (.iaddr 1 (.t 29) (.t 30)),
 oQ 32 (.load false 1 (.t 31)),
 oQ 33 (.mov (.t 6)),
 oQ 34 (.mov (.t 7)),
 oQ 35 (.iaddr 1 (.t 33) (.t 34)),
 oQ 36 (.load false 1 (.t 35)),
 oQ 37 (.bin 0 .lss (.t 32) (.t 36))])
 (.cond (.t 37)
 (.seq
 (.region false [
 oQ 4 (.mov (.c (.int .i64 (-1))))])
 .ret)
 .skip))
 (.seq
 (.region true [
 oQ 38 (.mov (.t 5)),
 oQ 39 (.mov (.t 7)),
 oQ 40 (.iaddr 1 (.t 38) (.t 39)),
 oQ 41 (.load false 1 (.t 40)),
 oQ 42 (.mov (.t 6)),
 oQ 43 (.mov (.t 7)),
 oQ 44 (.iaddr 1 (.t 42) (.t 43)),
 oQ 45 (.load false 1 (.t 44)),
 oQ 46 (.bin 0 .gtr (.t 41) (.t 45))])
 (.cond (.t 46)
 (.seq
 (.region false [
 oQ 4 (.mov (.c (.int .i64 1)))])
 .ret)
 .skip))))
 (.region false [
 oQ 27 (.mov (.t 7)),
 oQ 28 (.bin 0 .sub (.t 27) (.c (.int .i64 1))),
 oQ 7 (.mov (.t 28))]))))))
 (.seq
 (.region false [
 oQ 4 (.mov (.c (.int .i64 0)))])
 .ret)))))
def c522 : CF := ⟨47, 2, [.mov (.t 4)], b522⟩
def b539 : C :=
 (.seq
 (.region false [
 oQ 4 (.mov (.c (.sl true [] 0))),
 oQ 5 (.mov (.c (.bool false)))])
 (.seq
 (.seq
 (.region false [
 oQ 11 (.mov (.t 0)),
 oQ 12 (.mov (.t 1)),
 ⟨some 13, .call false (.c (.fn 274 [] [])) [.t 11, .t 12], none⟩,
 oQ 14 (.bin 0 .lss (.t 13) (.c (.int .i64 0)))])
 (.cond (.t 14)
 (.seq
 (.region false [
 oQ 4 (.mov (.c (.sl true [] 0))),
 oQ 5 (.mov (.c (.bool false)))])
 .ret)
 .skip))
 (.seq
 (.region false [
 oQ 6 (.mov (.c (.sl true [] 0)))])
 (.seq
 (.region false [
 oQ 7 (.mov (.c (.int .u64 0)))])
 (.seq
 (.seq
 (.region false [
 oQ 8 (.mov (.c (.int .i64 0)))])
 (.block 0
 (.loop
 (.seq
 (.seq
 (.region false [
 oQ 15 (.mov (.t 8)),
 oQ 16 (.mov (.t 0)),
 oQ 17 (.len false (.t 16)),
 oQ 18 (.bin 0 .lss (.t 15) (.t 17))])
 (.cond (.t 18)
 .skip
 (.exit 0)))
 (.seq
 (.block 1
 (.seq
 (.region false [
 oQ 21 (.mov (.t 0)),
 oQ 22 (.mov (.t 8)),
 ⟨some 23, .call false (.c (.fn 272 [] [])) [.t 21, .t 22], none⟩,
 oQ 24 (.mov (.t 1)),
 oQ 25 (.mov (.t 8)),
 ⟨some 26, .call false (.c (.fn 272 [] [])) [.t 24, .t 25], none⟩,
 oQ 27 (.mov (.t 7)),
 oQ 28 (.bin 0 .add (.t 26) (.t 27)),
 oQ 9 (.mov (.t 23)),
 oQ 10 (.mov (.t 28))])
 (.seq
 (.region false [
 oQ 7 (.mov (.c (.int .u64 0)))])
 (.seq
 (.seq
 (.region false [
 oQ 29 (.mov (.t 9)),
 oQ 30 (.mov (.t 10)),
 oQ 31 (.bin 0 .lss (.t 29) (.t 30))])
 (.cond (.t 31)
 (.seq
 (.region false [
 oQ 32 (.mov (.t 9)),
 oQ 33 (.bin 0 .add (.t 32) (.c (.int .u64 4294967296))),
 oQ 9 (.mov (.t 33))])
 (.region false [
 oQ 7 (.mov (.c (.int .u64 1)))]))
 .skip))
 (.region false [
 oQ 34 (.mov (.t 6)),
 oQ 35 (.mov (.t 9)),
 oQ 36 (.mov (.t 10)),
 oQ 37 (.bin 0 .sub (.t 35) (.t 36)),
 oQ 38 (.conv (.int .u32) (.t 37)),
 oQ 39 (.mksl [.int .u32 0] 1 [(0, (1, .t 38))]),
 oQ 40 (.append 1 4 (.t 34) (.t 39)),
 oQ 6 (.mov (.t 40))])))))
 (.region false [
 oQ 19 (.mov (.t 8)),
 oQ 20 (.bin 0 .add (.t 19) (.c (.int .i64 1))),
 oQ 8 (.mov (.t 20))]))))))
 (.seq
 (.region false [
 oQ 41 (.mov (.t 6)),
 ⟨some 42, .call false (.c (.fn 269 [] [])) [.t 41], none⟩,
 oQ 4 (.mov (.t 42)),
 oQ 5 (.mov (.c (.bool true)))])
 .ret))))))
def c539 : CF := ⟨43, 2, [.mov (.t 4), .mov (.t 5)], b539⟩
def b537 : C :=
 (.seq
 (.region false [
 oQ 4 (.mov (.c (.sl true [] 0)))])
 (.seq
 (.region false [
 oQ 5 (.mov (.c (.sl true [] 0)))])
 (.seq
 (.region false [
 oQ 8 (.mov (.t 1)),
 oQ 6 (.mov (.t 8))])
 (.seq
 (.seq
 (.region false [
 oQ 7 (.mov (.c (.int .i64 0)))])
 (.block 0
 (.loop
 (.seq
 (.seq
 (.region false [
 oQ 9 (.mov (.t 7)),
 oQ 10 (.mov (.t 0)),
 oQ 11 (.len false (.t 10)),
 oQ 12 (.bin 0 .lss (.t 9) (.t 11))])
 (.cond (.t 12)
 .skip
 (.exit 0)))
 (.seq
 (.block 1
 (.seq
 (.region false [
 oQ 15 (.mov (.t 5)),
 oQ 16 (.mov (.t 0)),
 oQ 17 (.mov (.t 7)),
 oQ 18 (.iaddr 1 (.t 16) (.t 17)),
 oQ 19 (.load false 1 (.t 18)),
 oQ 20 (.bin 0 .shl (.t 19) (.c (.int .u64 1))),
 oQ 21 (.mov (.t 6)),
 oQ 22 (.bin 0 .or (.t 20) (.t 21)),
 oQ 23 (.mksl [.int .u32 0] 1 [(0, (1, .t 22))]),
 oQ 24 (.append 1 4 (.t 15) (.t 23)),
 oQ 5 (.mov (.t 24))])
 (.region false [
 oQ 25 (.mov (.t 0)),
 oQ 26 (.mov (.t 7)),
 oQ 27 (.iaddr 1 (.t 25) (.t 26)),
 oQ 28 (.load false 1 (.t 27)),
 oQ 29 (.bin 0 .shr (.t 28) (.c (.int .u64 31))),
 oQ 6 (.mov (.t 29))])))
 (.region false [
 oQ 13 (.mov (.t 7)),
 oQ 14 (.bin 0 .add (.t 13) (.c (.int .i64 1))),
 oQ 7 (.mov (.t 14))]))))))
 (.seq
 (.region false [
 oQ 30 (.mov (.t 5)),
 oQ 31 (.mov (.t 6)),
 oQ 32 (.mksl [.int .u32 0] 1 [(0, (1, .t 31))]),
 oQ 33 (.append 1 4 (.t 30) (.t 32)),
 ⟨some 34, .call false (.c (.fn 269 [] [])) [.t 33], none⟩,
 oQ 4 (.mov (.t 34))])
 .ret)))))
def c537 : CF := ⟨35, 2, [.mov (.t 4)], b537⟩
def b552 : C :=
 (.seq
 (.region false [
 oQ 2 (.mov (.c (.sl true [] 0)))])
 (.seq
 (.region false [
 oQ 3 (.mov (.c (.sl true [] 0)))])
 (.seq
 (.seq
 (.region false [
 oQ 4 (.mov (.c (.int .i64 0)))])
 (.block 0
 (.loop
 (.seq
 (.seq
 (.region false [
 oQ 5 (.mov (.t 4)),
 oQ 6 (.mov (.t 0)),
 oQ 7 (.len false (.t 6)),
 oQ 8 (.bin 0 .lss (.t 5) (.t 7))])
 (.cond (.t 8)
 .skip
 (.exit 0)))
 (.seq
 (.block 1
 (.region true [
 oQ 11 (.mov (.t 3)),
 oQ 12 (.mov (.t 0)),
 oQ 13 (.mov (.t 4)),
 oQ 14 (.iaddr 1 (.t 12) (.t 13)),
 oQ 15 (.load false 1 (.t 14)),
 oQ 16 (.bin 0 .shr (.t 15) (.c (.int .u64 1))),
 oQ 17 (.mov (.t 0)),
 oQ 18 (.mov (.t 4)),
 oQ 19 (.bin 0 .add (.t 18) (.c (.int .i64 1))),
 ⟨some 20, .call true (.c (.fn 272 [] [])) [.t 17, .t 19], none⟩,
 oQ 21 (.bin 0 .and (.t 20) (.c (.int .u64 1))),
 oQ 22 (.conv (.int .u32) (.t 21)),
 oQ 23 (.bin 0 .shl (.t 22) (.c (.int .u64 31))),
 oQ 24 (.bin 0 .or (.t 16) (.t 23)),
 oQ 25 (.mksl [.int .u32 0] 1 [(0, (1, .t 24))]),
 oQ 26 (.append 1 4 (.t 11) (.t 25)),
 oQ 3 (.mov (.t 26))]))
 (.region false [
 oQ 9 (.mov (.t 4)),
 oQ 10 (.bin 0 .add (.t 9) (.c (.int .i64 1))),
 oQ 4 (.mov (.t 10))]))))))
 (.seq
 (.region false [
 oQ 27 (.mov (.t 3)),
 ⟨some 28, .call false (.c (.fn 269 [] [])) [.t 27], none⟩,
 oQ 2 (.mov (.t 28))])
 .ret))))
def c552 : CF := ⟨29, 1, [.mov (.t 2)], b552⟩
theorem s522 : stripF Go.Proofs.Tryz.prog 274 = some c522 := by kernel_rfl
theorem s539 : stripF Go.Proofs.Tryz.prog 306 = some c539 := by kernel_rfl
theorem s537 : stripF Go.Proofs.Tryz.prog 304 = some c537 := by kernel_rfl
theorem s552 : stripF Go.Proofs.Tryz.prog 326 = some c552 := by kernel_rfl

def cmpN (x y : Nat) : Int := if x < y then -1 else if y < x then 1 else 0

theorem val_less {X Y Z : List Nat} {p q : Nat} (hl : X.length = Y.length) (hX : Lm X) (h : p < q) : val (X ++ [p] ++ Z) < val (Y ++ [q] ++ Z) := by
  have h1 := val_lt hX
  rw [val_app (X ++ [p]), val_app (Y ++ [q]), val_snoc, val_snoc, List.length_append, List.length_append, ← hl]
  generalize 4294967296 ^ X.length = K at *
  have h2 : (p + 1) * K ≤ q * K := Nat.mul_le_mul_right _ h
  rw [Nat.add_mul] at h2
  simp only [List.length_singleton]
  have : val X + p * K < val Y + q * K := by omega
  omega

set_option maxHeartbeats 1000000 in
theorem good522 (exa exb : Bool) (a b : List Nat) (ha : Lm a) (hb : Lm b) (hla : a.length ≤ 1000000) (hlb : b.length ≤ 1000000) : Good Go.Proofs.Tryz.prog 274 [nsl exa a, nsl exb b] (.int .i64 (cmpN (val a) (val b))) := by
  refine good_go mix s522 (Nat.le_of_ble_eq_true rfl) fun e he => ?_
  have e0 : e 0 = nsl exa a := he 0
  have e1 : e 1 = nsl exb b := he 1
  clear he
  simp only [c522,b522, oQ]
  simp -implicitDefEqProofs (disch := omega) only [↓ZD,ZP,cnd_t,cnd_f,↓reduceIte,Env.put,stepO,lenV,binV,binInt,unV,loadV,sliceV,boundOf,convV,slstrV,if_pos,if_neg,Int.reduceToNat,Nat.reducePow,V.cells,V.isCell,V.boxable,Nat.reduceEqDiff,reduceCtorEq,reduceIte,ite_self,enterEnv,e0,e1]
  refine calP_ro (nl_ro_1 _ _) (lim512 exa a ha (by omega)) (nf_ro _) ?_
  simp -implicitDefEqProofs (disch := omega) only [↓ZD,ZP,cnd_t,cnd_f,↓reduceIte,Env.put,stepO,lenV,binV,binInt,unV,loadV,sliceV,boundOf,convV,slstrV,if_pos,if_neg,Int.reduceToNat,Nat.reducePow,V.cells,V.isCell,V.boxable,Nat.reduceEqDiff,reduceCtorEq,reduceIte,ite_self,enterEnv,e0,e1]
  refine calP_ro (nl_ro_1 _ _) (lim512 exb b hb (by omega)) (nf_ro _) ?_
  have hXl : (lim (val a)).length ≤ 1000000 := Nat.le_trans (lim_len (val_lt ha)) hla
  have hYl : (lim (val b)).length ≤ 1000000 := Nat.le_trans (lim_len (val_lt hb)) hlb
  have hXm := lim_lm (val a)
  have hYm := lim_lm (val b)
  have hXv := lim_val (val a)
  have hYv := lim_val (val b)
  have hlt := @lim_lt (val a) (val b)
  have hgt := @lim_lt (val b) (val a)
  generalize lim (val a) = X at *
  generalize lim (val b) = Y at *
  generalize val a = A at *
  generalize val b = B at *
  rcases Nat.lt_trichotomy X.length Y.length with h | h | h
  · simp -implicitDefEqProofs (disch := omega) only [↓ZD,ZP,cnd_t,cnd_f,↓reduceIte,Env.put,stepO,lenV,binV,binInt,unV,loadV,sliceV,boundOf,convV,slstrV,if_pos,if_neg,Int.reduceToNat,Nat.reducePow,V.cells,V.isCell,V.boxable,Nat.reduceEqDiff,reduceCtorEq,reduceIte,ite_self,enterEnv,e0,e1,nf,nsl]
    exact gives_eq rfl (by rw [cmpN, if_pos (hlt h)]; rfl)
  · simp -implicitDefEqProofs (disch := omega) only [↓ZD,ZP,cnd_t,cnd_f,↓reduceIte,Env.put,stepO,lenV,binV,binInt,unV,loadV,sliceV,boundOf,convV,slstrV,if_pos,if_neg,Int.reduceToNat,Nat.reducePow,V.cells,V.isCell,V.boxable,Nat.reduceEqDiff,reduceCtorEq,reduceIte,ite_self,enterEnv,e0,e1,nf,nsl,bne_self_eq_false,h]
    refine go_loop (fun m e H => ∃ x y z, X = x ++ z ∧ Y = y ++ z ∧ x.length = y.length ∧ m = x.length ∧ e 5 = .sl false (nl X) X.length ∧ e 6 = .sl false (nl Y) Y.length ∧ e 7 = .int .i64 ((x.length : Int) - 1)) X.length ⟨X, Y, [], by simp, by simp, h, rfl, ?_, ?_, ?_⟩ ?_
    · simp [Env.set, h]
    · simp [Env.set]
    · simp [Env.set, h]
    rintro m e H ⟨x, y, z, rfl, rfl, hxy, rfl, e5, e6, e7⟩
    simp only [List.length_append] at hXl hYl
    rcases List.eq_nil_or_concat x with rfl | ⟨x, p, rfl⟩
    · obtain rfl : y = [] := List.length_eq_zero_iff.1 hxy.symm
      have hz : ((([] : List Nat).length : Nat) : Int) - 1 = -1 := rfl
      rw [hz] at e7
      simp -implicitDefEqProofs (disch := omega) only [↓ZD,ZP,cnd_t,cnd_f,↓reduceIte,Env.put,stepO,lenV,binV,binInt,unV,loadV,sliceV,boundOf,convV,slstrV,if_pos,if_neg,Int.reduceToNat,Nat.reducePow,V.cells,V.isCell,V.boxable,Nat.reduceEqDiff,reduceCtorEq,reduceIte,ite_self,enterEnv,e5,e6,e7]
      refine gives_eq rfl ?_
      have : A = B := by rw [← hXv, ← hYv]
      rw [cmpN, if_neg (by omega), if_neg (by omega)]; rfl
    · rcases List.eq_nil_or_concat y with rfl | ⟨y, q, rfl⟩
      · simp at hxy
      · rw [List.concat_eq_append] at *
        rw [List.concat_eq_append] at *
        have hl : x.length = y.length := by simpa using hxy
        have hz : (((x ++ [p]).length : Nat) : Int) - 1 = ((x.length : Nat) : Int) := by simp
        rw [hz] at e7
        have hp : (nl (x ++ [p] ++ z))[x.length]? = some (limb p) := by simp [nl]
        have hq : (nl (y ++ [q] ++ z))[x.length]? = some (limb q) := by rw [hl]; simp [nl]
        have hpl : p < 4294967296 := hXm p (by simp)
        have hql : q < 4294967296 := hYm q (by simp)
        have hll : (x ++ [p] ++ z).length = x.length + 1 + z.length := by simp; omega
        have hll' : (y ++ [q] ++ z).length = x.length + 1 + z.length := by simp [hl]; omega
        simp only [List.length_append,List.length_singleton] at hXl
        rcases Nat.lt_trichotomy p q with hpq | hpq | hpq
        · have := val_less (Z := z) hl hXm.left.left hpq
          simp -implicitDefEqProofs (disch := omega) only [↓ZD,ZP,cnd_t,cnd_f,↓reduceIte,Env.put,stepO,lenV,binV,binInt,unV,loadV,sliceV,boundOf,convV,slstrV,if_pos,if_neg,Int.reduceToNat,Nat.reducePow,V.cells,V.isCell,V.boxable,Nat.reduceEqDiff,reduceCtorEq,reduceIte,ite_self,enterEnv,e5,e6,e7,hp,hq,limb,hll,hll']
          exact gives_eq rfl (by rw [cmpN, if_pos (by rw [← hXv, ← hYv]; exact this)]; rfl)
        · subst hpq
          simp -implicitDefEqProofs (disch := omega) only [↓ZD,ZP,cnd_t,cnd_f,↓reduceIte,Env.put,stepO,lenV,binV,binInt,unV,loadV,sliceV,boundOf,convV,slstrV,if_pos,if_neg,Int.reduceToNat,Nat.reducePow,V.cells,V.isCell,V.boxable,Nat.reduceEqDiff,reduceCtorEq,reduceIte,ite_self,enterEnv,e5,e6,e7,hp,hq,limb,hll,hll']
          refine ⟨x.length, by simp, x, y, p :: z, by simp, by simp, hl, rfl, ?_⟩
          simp [Env.set, e5, e6]
        · have := val_less (Z := z) hl.symm hYm.left.left hpq
          simp -implicitDefEqProofs (disch := omega) only [↓ZD,ZP,cnd_t,cnd_f,↓reduceIte,Env.put,stepO,lenV,binV,binInt,unV,loadV,sliceV,boundOf,convV,slstrV,if_pos,if_neg,Int.reduceToNat,Nat.reducePow,V.cells,V.isCell,V.boxable,Nat.reduceEqDiff,reduceCtorEq,reduceIte,ite_self,enterEnv,e5,e6,e7,hp,hq,limb,hll,hll']
          exact gives_eq rfl (by rw [cmpN, if_neg (by rw [← hXv, ← hYv]; omega), if_pos (by rw [← hXv, ← hYv]; exact this)]; rfl)
  · simp -implicitDefEqProofs (disch := omega) only [↓ZD,ZP,cnd_t,cnd_f,↓reduceIte,Env.put,stepO,lenV,binV,binInt,unV,loadV,sliceV,boundOf,convV,slstrV,if_pos,if_neg,Int.reduceToNat,Nat.reducePow,V.cells,V.isCell,V.boxable,Nat.reduceEqDiff,reduceCtorEq,reduceIte,ite_self,enterEnv,e0,e1,nf,nsl]
    have := hgt h
    exact gives_eq rfl (by rw [cmpN, if_neg (by omega), if_pos this]; rfl)

theorem sub_step {K x y c c' lo A' B' vO va vb : Nat} (hs : x + 4294967296 * c' = lo + (y + c)) (h : vO + K * (x + 4294967296 * A') + vb = va + K * (y + 4294967296 * B' + c)) :
    vO + K * lo + K * 4294967296 * A' + vb = va + K * 4294967296 * (B' + c') := by
  have h1 : K * (x + 4294967296 * c') = K * (lo + (y + c)) := by rw [hs]
  simp only [Nat.mul_add,Nat.mul_assoc] at *
  omega

def minR (a b : Nat) : V := if a < b then .tup [nf [], .bool false] else .tup [nf (lim (a - b)), .bool true]

set_option maxHeartbeats 1000000 in
theorem good539 (exa exb : Bool) (a b : List Nat) (ha : Lm a) (hb : Lm b) (hla : a.length ≤ 1000000) (hlb : b.length ≤ 1000000) : Good Go.Proofs.Tryz.prog 306 [nsl exa a, nsl exb b] (minR (val a) (val b)) := by
  refine good_go mix s539 (Nat.le_of_ble_eq_true rfl) fun e he => ?_
  have e0 : e 0 = nsl exa a := he 0
  have e1 : e 1 = nsl exb b := he 1
  clear he
  simp only [c539,b539, oQ]
  simp -implicitDefEqProofs (disch := omega) only [↓ZD,ZP,cnd_t,cnd_f,↓reduceIte,Env.put,stepO,lenV,binV,binInt,unV,loadV,sliceV,boundOf,convV,slstrV,if_pos,if_neg,Int.reduceToNat,Nat.reducePow,V.cells,V.isCell,V.boxable,Nat.reduceEqDiff,reduceCtorEq,reduceIte,ite_self,enterEnv,e0,e1]
  refine calP_ro (by simp [roL, nsl_ro]) (good522 exa exb a b ha hb hla hlb) rfl ?_
  by_cases hab : val a < val b
  · rw [cmpN, if_pos hab, minR, if_pos hab]
    simp -implicitDefEqProofs (disch := omega) only [↓ZD,ZP,cnd_t,cnd_f,↓reduceIte,Env.put,stepO,lenV,binV,binInt,unV,loadV,sliceV,boundOf,convV,slstrV,if_pos,if_neg,Int.reduceToNat,Nat.reducePow,V.cells,V.isCell,V.boxable,Nat.reduceEqDiff,reduceCtorEq,reduceIte,ite_self,enterEnv,e0,e1]
    exact gives_eq rfl rfl
  have hcmp : decide (cmpN (val a) (val b) < 0) = false := by rw [cmpN, if_neg hab]; split <;> decide
  rw [minR, if_neg hab]
  simp -implicitDefEqProofs (disch := omega) only [↓ZD,ZP,cnd_t,cnd_f,↓reduceIte,Env.put,stepO,lenV,binV,binInt,unV,loadV,sliceV,boundOf,convV,slstrV,if_pos,if_neg,Int.reduceToNat,Nat.reducePow,V.cells,V.isCell,V.boxable,Nat.reduceEqDiff,reduceCtorEq,reduceIte,ite_self,enterEnv,e0,e1,hcmp]
  refine go_loop (fun m e H => ∃ O c v, NatAt H v O ∧ Lm O ∧ c ≤ 1 ∧ O.length ≤ a.length ∧ m = a.length - O.length ∧ val O + 4294967296 ^ O.length * val (a.drop O.length) + val b = val a + 4294967296 ^ O.length * (val (b.drop O.length) + c) ∧
      e 0 = nsl exa a ∧ e 1 = nsl exb b ∧ e 6 = v ∧ e 7 = .int .u64 (c : Nat) ∧ e 8 = .int .i64 (O.length : Nat))
    a.length ⟨[], 0, _, .inl ⟨rfl, rfl⟩, (fun x hx => (List.not_mem_nil hx).elim), by decide, by simp, by simp, by simp [val], ?_, ?_, ?_, ?_, ?_⟩ ?_
  · simp [Env.set, e0]
  · simp [Env.set, e1]
  · simp [Env.set]
  · simp [Env.set]
  · simp [Env.set]
  clear e0 e1
  rintro m e H ⟨O, c, v, hO, hOm, hc, hOl, rfl, hval, e0, e1, e6, e7, e8⟩
  rcases Nat.lt_or_ge O.length a.length with hlt | hge
  · have g1 := good515 exa a O.length ha (by omega) (by omega)
    have g2 := good515 exb b O.length hb (by omega) (by omega)
    have hx := getD_lt ha O.length
    have hy := getD_lt hb O.length
    rw [val_drop a O.length, val_drop b O.length] at hval
    generalize a.getD O.length 0 = x at *
    generalize b.getD O.length 0 = y at *
    by_cases hxy : x < y + c
    · obtain ⟨v', H', happ, hO'⟩ := append_at hO (x + 4294967296 - (y + c)) true (by omega)
      have hs := sub_step (c' := 1) (lo := x + 4294967296 - (y + c)) (by omega) hval
      have hsub : ((x + 4294967296 : Nat) : Int) - ((y + c : Nat) : Int) = ((x + 4294967296 - (y + c) : Nat) : Int) := by omega
      have hlo : x + 4294967296 - (y + c) < 4294967296 := by omega
      generalize x + 4294967296 - (y + c) = lo at *
      have hw : IntKind.u32.wrap ((lo : Nat) : Int) = ((lo : Nat) : Int) := w32' (by omega)
      have hw64 : IntKind.u64.wrap ((lo : Nat) : Int) = ((lo : Nat) : Int) := w64' (by omega)
      have hadd : ((x : Nat) : Int) + 4294967296 = ((x + 4294967296 : Nat) : Int) := by omega
      simp -implicitDefEqProofs (disch := omega) only [↓ZD,ZP,cnd_t,cnd_f,↓reduceIte,Env.put,stepO,lenV,binV,binInt,unV,loadV,sliceV,boundOf,convV,slstrV,if_pos,if_neg,Int.reduceToNat,Nat.reducePow,V.cells,V.isCell,V.boxable,Nat.reduceEqDiff,reduceCtorEq,reduceIte,ite_self,enterEnv,e0,e1,e6,e7,e8,nsl]
      refine calP_ro (by simp [roL, V.ro, nl_ro]) g1 rfl ?_
      simp -implicitDefEqProofs (disch := omega) only [↓ZD,ZP,cnd_t,cnd_f,↓reduceIte,Env.put,stepO,lenV,binV,binInt,unV,loadV,sliceV,boundOf,convV,slstrV,if_pos,if_neg,Int.reduceToNat,Nat.reducePow,V.cells,V.isCell,V.boxable,Nat.reduceEqDiff,reduceCtorEq,reduceIte,ite_self,enterEnv,e0,e1,e6,e7,e8,nsl]
      refine calP_ro (by simp [roL, V.ro, nl_ro]) g2 rfl ?_
      simp -implicitDefEqProofs (disch := omega) only [↓ZD,ZP,cnd_t,cnd_f,↓reduceIte,Env.put,stepO,lenV,binV,binInt,unV,loadV,sliceV,boundOf,convV,slstrV,if_pos,if_neg,Int.reduceToNat,Nat.reducePow,V.cells,V.isCell,V.boxable,Nat.reduceEqDiff,reduceCtorEq,reduceIte,ite_self,enterEnv,e0,e1,e6,e7,e8,nsl,hadd,hsub,hw,hw64,fillL,evParts,splice,List.take_zero,List.take_succ_cons,List.drop_succ_cons,List.drop_zero,List.drop_nil,happ]
      refine ⟨_, ?_, O ++ [lo], 1, _, hO', hOm.app (fun z hz => by rw [List.mem_singleton.1 hz]; exact hlo), by omega, by simp; omega, rfl, ?_, rfl, rfl, by simp⟩
      · simp; omega
      · rw [List.length_append, List.length_singleton, val_snoc, Nat.pow_succ, Nat.mul_comm lo]; exact hs
    · obtain ⟨v', H', happ, hO'⟩ := append_at hO (x - (y + c)) true (by omega)
      have hs := sub_step (c' := 0) (lo := x - (y + c)) (by omega) hval
      have hsub : ((x : Nat) : Int) - ((y + c : Nat) : Int) = ((x - (y + c) : Nat) : Int) := by omega
      have hlo : x - (y + c) < 4294967296 := by omega
      generalize x - (y + c) = lo at *
      have hw : IntKind.u32.wrap ((lo : Nat) : Int) = ((lo : Nat) : Int) := w32' (by omega)
      have hw64 : IntKind.u64.wrap ((lo : Nat) : Int) = ((lo : Nat) : Int) := w64' (by omega)
      simp -implicitDefEqProofs (disch := omega) only [↓ZD,ZP,cnd_t,cnd_f,↓reduceIte,Env.put,stepO,lenV,binV,binInt,unV,loadV,sliceV,boundOf,convV,slstrV,if_pos,if_neg,Int.reduceToNat,Nat.reducePow,V.cells,V.isCell,V.boxable,Nat.reduceEqDiff,reduceCtorEq,reduceIte,ite_self,enterEnv,e0,e1,e6,e7,e8,nsl]
      refine calP_ro (by simp [roL, V.ro, nl_ro]) g1 rfl ?_
      simp -implicitDefEqProofs (disch := omega) only [↓ZD,ZP,cnd_t,cnd_f,↓reduceIte,Env.put,stepO,lenV,binV,binInt,unV,loadV,sliceV,boundOf,convV,slstrV,if_pos,if_neg,Int.reduceToNat,Nat.reducePow,V.cells,V.isCell,V.boxable,Nat.reduceEqDiff,reduceCtorEq,reduceIte,ite_self,enterEnv,e0,e1,e6,e7,e8,nsl]
      refine calP_ro (by simp [roL, V.ro, nl_ro]) g2 rfl ?_
      simp -implicitDefEqProofs (disch := omega) only [↓ZD,ZP,cnd_t,cnd_f,↓reduceIte,Env.put,stepO,lenV,binV,binInt,unV,loadV,sliceV,boundOf,convV,slstrV,if_pos,if_neg,Int.reduceToNat,Nat.reducePow,V.cells,V.isCell,V.boxable,Nat.reduceEqDiff,reduceCtorEq,reduceIte,ite_self,enterEnv,e0,e1,e6,e7,e8,nsl,hsub,hw,hw64,fillL,evParts,splice,List.take_zero,List.take_succ_cons,List.drop_succ_cons,List.drop_zero,List.drop_nil,happ]
      refine ⟨_, ?_, O ++ [lo], 0, _, hO', hOm.app (fun z hz => by rw [List.mem_singleton.1 hz]; exact hlo), by omega, by simp; omega, rfl, ?_, rfl, rfl, by simp⟩
      · simp; omega
      · rw [List.length_append, List.length_singleton, val_snoc, Nat.pow_succ, Nat.mul_comm lo]; exact hs
  · rw [List.drop_eq_nil_of_le hge] at hval
    simp -implicitDefEqProofs (disch := omega) only [↓ZD,ZP,cnd_t,cnd_f,↓reduceIte,Env.put,stepO,lenV,binV,binInt,unV,loadV,sliceV,boundOf,convV,slstrV,if_pos,if_neg,Int.reduceToNat,Nat.reducePow,V.cells,V.isCell,V.boxable,Nat.reduceEqDiff,reduceCtorEq,reduceIte,ite_self,enterEnv,e0,e1,e6,e7,e8,nsl]
    refine calP_at hO (fun ex => lim512 ex O hOm (by omega)) (nf_ro _) fun H'' => ?_
    simp -implicitDefEqProofs (disch := omega) only [↓ZD,ZP,cnd_t,cnd_f,↓reduceIte,Env.put,stepO,lenV,binV,binInt,unV,loadV,sliceV,boundOf,convV,slstrV,if_pos,if_neg,Int.reduceToNat,Nat.reducePow,V.cells,V.isCell,V.boxable,Nat.reduceEqDiff,reduceCtorEq,reduceIte,ite_self,enterEnv,e0,e1,e6,e7,e8]
    refine gives_eq (by simp [V.ro, roL, nf_ro]) ?_
    have h1 := val_lt hOm
    have hz : val (b.drop O.length) + c = 0 := by
      rcases Nat.eq_zero_or_pos (val (b.drop O.length) + c) with h | h
      · exact h
      · have := Nat.mul_le_mul_left (4294967296 ^ O.length) h
        simp only [val,Nat.mul_zero,Nat.mul_one] at hval this
        omega
    rw [hz] at hval
    simp only [val,Nat.mul_zero] at hval
    have : val O = val a - val b := by omega
    rw [this]; rfl

set_option maxHeartbeats 1000000 in
theorem good537 (ex : Bool) (a : List Nat) (more : Nat) (ha : Lm a) (hl : a.length ≤ 1000000) (hm : more ≤ 1) : Good Go.Proofs.Tryz.prog 304 [nsl ex a, .int .u32 (more : Nat)] (nf (lim (2 * val a + more))) := by
  refine good_go mix s537 (Nat.le_of_ble_eq_true rfl) fun e he => ?_
  have e0 : e 0 = nsl ex a := he 0
  have e1 : e 1 = .int .u32 (more : Nat) := he 1
  clear he
  simp only [c537,b537, oQ]
  simp -implicitDefEqProofs (disch := omega) only [↓ZD,ZP,cnd_t,cnd_f,↓reduceIte,Env.put,stepO,lenV,binV,binInt,unV,loadV,sliceV,boundOf,convV,slstrV,if_pos,if_neg,Int.reduceToNat,Nat.reducePow,V.cells,V.isCell,V.boxable,Nat.reduceEqDiff,reduceCtorEq,reduceIte,ite_self,enterEnv,e0,e1]
  refine go_loop (fun m e H => ∃ O c v, NatAt H v O ∧ Lm O ∧ c ≤ 1 ∧ O.length ≤ a.length ∧ m = a.length - O.length ∧ O ++ shl 1 c (a.drop O.length) = shl 1 more a ∧
      e 0 = nsl ex a ∧ e 5 = v ∧ e 6 = .int .u32 (c : Nat) ∧ e 7 = .int .i64 (O.length : Nat))
    a.length ⟨[], more, _, .inl ⟨rfl, rfl⟩, (fun x hx => (List.not_mem_nil hx).elim), hm, by simp, by simp, by simp, ?_, ?_, ?_, ?_⟩ ?_
  · simp [Env.set, e0]
  · simp [Env.set]
  · simp [Env.set]
  · simp [Env.set]
  clear e0 e1
  rintro m e H ⟨O, c, v, hO, hOm, hc, hOl, rfl, hval, e0, e5, e6, e7⟩
  rcases Nat.lt_or_ge O.length a.length with hlt | hge
  · have hdc := List.drop_eq_getElem_cons hlt
    have hat : (nl a)[O.length]? = some (limb a[O.length]) := nl_get (List.getElem?_eq_getElem hlt)
    have hx : a[O.length] < 4294967296 := ha _ (List.getElem_mem hlt)
    rw [hdc] at hval
    generalize a[O.length] = x at *
    obtain ⟨v', H', happ, hO'⟩ := append_at hO (x * 2 ^ 1 % 4294967296 + c) true (by omega)
    have hor : (x * 2 ^ 1 % 4294967296) ||| c = x * 2 ^ 1 % 4294967296 + c := by
      rw [Nat.or_comm]; exact or_low (by decide) (by omega)
    have hor2 : (x * 2 % 4294967296) ||| c = x * 2 ^ 1 % 4294967296 + c := hor
    have hlo : x * 2 ^ 1 % 4294967296 + c < 4294967296 := by omega
    have hc1 : x * 2 ^ 1 / 4294967296 ≤ 1 := by omega
    have hcd : x / 2 ^ 31 = x * 2 ^ 1 / 4294967296 := by omega
    have hcd2 : x / 2147483648 = x * 2 ^ 1 / 4294967296 := by omega
    rw [shl] at hval
    have hw : IntKind.u32.wrap ((x * 2 : Nat) : Int) = ((x * 2 % 4294967296 : Nat) : Int) := w32 _
    have hmul : ((x : Nat) : Int) * 2 = ((x * 2 : Nat) : Int) := by omega
    have hwl : IntKind.u32.wrap ((x * 2 ^ 1 % 4294967296 + c : Nat) : Int) = ((x * 2 ^ 1 % 4294967296 + c : Nat) : Int) := w32' (by omega)
    generalize x * 2 ^ 1 % 4294967296 + c = lo at *
    generalize x * 2 ^ 1 / 4294967296 = c' at *
    simp -implicitDefEqProofs (disch := omega) only [↓ZD,ZP,cnd_t,cnd_f,↓reduceIte,Env.put,stepO,lenV,binV,binInt,unV,loadV,sliceV,boundOf,convV,slstrV,if_pos,if_neg,Int.reduceToNat,Nat.reducePow,V.cells,V.isCell,V.boxable,Nat.reduceEqDiff,reduceCtorEq,reduceIte,ite_self,enterEnv,e0,e5,e6,e7,nsl,hat,limb,shl_c,shr_c,w32,Nat.pow_one,hor,hor2,hwl,hcd,hcd2,fillL,evParts,splice,List.take_zero,List.take_succ_cons,List.drop_succ_cons,List.drop_zero,List.drop_nil,happ]
    exact ⟨_, by simp; omega, O ++ [lo], c', v', hO', hOm.app (fun z hz => by rw [List.mem_singleton.1 hz]; exact hlo), hc1, by simp; omega, rfl, by simp [hval], rfl, rfl, by simp⟩
  · rw [List.drop_eq_nil_of_le hge, shl] at hval
    obtain ⟨v', H', happ, hO'⟩ := append_at hO c true (by omega)
    have hv := shl_val 1 more a
    rw [← hval] at hv
    simp -implicitDefEqProofs (disch := omega) only [↓ZD,ZP,cnd_t,cnd_f,↓reduceIte,Env.put,stepO,lenV,binV,binInt,unV,loadV,sliceV,boundOf,convV,slstrV,if_pos,if_neg,Int.reduceToNat,Nat.reducePow,V.cells,V.isCell,V.boxable,Nat.reduceEqDiff,reduceCtorEq,reduceIte,ite_self,enterEnv,e0,e5,e6,e7,nsl,fillL,evParts,splice,List.take_zero,List.take_succ_cons,List.drop_succ_cons,List.drop_zero,List.drop_nil,happ]
    refine calP_at hO' (fun ex => lim512 ex (O ++ [c]) (hOm.app (fun z hz => by rw [List.mem_singleton.1 hz]; omega)) (by simp; omega)) (nf_ro _) fun H'' => ?_
    simp -implicitDefEqProofs (disch := omega) only [↓ZD,ZP,cnd_t,cnd_f,↓reduceIte,Env.put,stepO,lenV,binV,binInt,unV,loadV,sliceV,boundOf,convV,slstrV,if_pos,if_neg,Int.reduceToNat,Nat.reducePow,V.cells,V.isCell,V.boxable,Nat.reduceEqDiff,reduceCtorEq,reduceIte,ite_self,enterEnv]
    refine gives_eq (nf_ro _) ?_
    rw [hv, show val a * 2 ^ 1 + more = 2 * val a + more by omega]; rfl

theorem and1_64 (y : Nat) (h : y < 18446744073709551616) : (BitVec.ofInt IntKind.u64.bits (y : Int) &&& BitVec.ofInt IntKind.u64.bits 1).toNat = y % 2 := by
  show (BitVec.ofInt 64 (y : Int) &&& BitVec.ofInt 64 1).toNat = y % 2
  rw [ofInt_nat, show BitVec.ofInt 64 1 = BitVec.ofNat 64 1 by decide, BitVec.toNat_and, BitVec.toNat_ofNat, BitVec.toNat_ofNat, show 1 % 2 ^ 64 = 1 by decide, Nat.and_one_is_mod]
  omega
theorem and1_32 (y : Nat) (h : y < 4294967296) : (BitVec.ofInt IntKind.u32.bits (y : Int) &&& BitVec.ofInt IntKind.u32.bits 1).toNat = y % 2 := by
  show (BitVec.ofInt 32 (y : Int) &&& BitVec.ofInt 32 1).toNat = y % 2
  rw [ofInt_nat, show BitVec.ofInt 32 1 = BitVec.ofNat 32 1 by decide, BitVec.toNat_and, BitVec.toNat_ofNat, BitVec.toNat_ofNat, show 1 % 2 ^ 32 = 1 by decide, Nat.and_one_is_mod]
  omega

theorem headD_drop (a : List Nat) (i : Nat) : (a.drop i).headD 0 = a.getD i 0 := by
  rcases Nat.lt_or_ge i a.length with h | h
  · rw [List.drop_eq_getElem_cons h, List.getD_eq_getElem?_getD, List.getElem?_eq_getElem h]; rfl
  · rw [List.drop_eq_nil_of_le h, List.getD_eq_getElem?_getD, List.getElem?_eq_none h]; rfl

set_option maxHeartbeats 1000000 in
theorem good552 (ex : Bool) (a : List Nat) (ha : Lm a) (hl : a.length ≤ 1000000) : Good Go.Proofs.Tryz.prog 326 [nsl ex a] (nf (lim (val a / 2))) := by
  refine good_go mix s552 (Nat.le_of_ble_eq_true rfl) fun e he => ?_
  have e0 : e 0 = nsl ex a := he 0
  clear he
  simp only [c552,b552, oQ]
  simp -implicitDefEqProofs (disch := omega) only [↓ZD,ZP,cnd_t,cnd_f,↓reduceIte,Env.put,stepO,lenV,binV,binInt,unV,loadV,sliceV,boundOf,convV,slstrV,if_pos,if_neg,Int.reduceToNat,Nat.reducePow,V.cells,V.isCell,V.boxable,Nat.reduceEqDiff,reduceCtorEq,reduceIte,ite_self,enterEnv,e0]
  refine go_loop (fun m e H => ∃ O v, NatAt H v O ∧ O.length ≤ a.length ∧ m = a.length - O.length ∧ O ++ shr 1 (a.drop O.length) = shr 1 a ∧ e 0 = nsl ex a ∧ e 3 = v ∧ e 4 = .int .i64 (O.length : Nat))
    a.length ⟨[], _, .inl ⟨rfl, rfl⟩, by simp, by simp, by simp, ?_, ?_, ?_⟩ ?_
  · simp [Env.set, e0]
  · simp [Env.set]
  · simp [Env.set]
  clear e0
  rintro m e H ⟨O, v, hO, hOl, rfl, hval, e0, e3, e4⟩
  rcases Nat.lt_or_ge O.length a.length with hlt | hge
  · have hdc := List.drop_eq_getElem_cons hlt
    have hat : (nl a)[O.length]? = some (limb a[O.length]) := nl_get (List.getElem?_eq_getElem hlt)
    have hx : a[O.length] < 4294967296 := ha _ (List.getElem_mem hlt)
    have g2 := good515 ex a (O.length + 1) ha (by omega) (by omega)
    have hy := getD_lt ha (O.length + 1)
    rw [hdc, shr, headD_drop] at hval
    generalize a[O.length] = x at *
    generalize a.getD (O.length + 1) 0 = y at *
    have hand := and1_64 y (by omega)
    have hlo : (x + 4294967296 * y) / 2 ^ 1 % 4294967296 = x / 2 + y % 2 * 2147483648 := by omega
    obtain ⟨v', H', happ, hO'⟩ := append_at hO (x / 2 + y % 2 * 2147483648) true (by omega)
    have hor : (x / 2) ||| (y % 2 * 2147483648) = x / 2 + y % 2 * 2147483648 := by
      have := or_high' (a := y % 2) (b := x / 2) (k := 31) (by omega)
      rw [Nat.or_comm, this]; omega
    have hwl : IntKind.u32.wrap ((x / 2 + y % 2 * 2147483648 : Nat) : Int) = ((x / 2 + y % 2 * 2147483648 : Nat) : Int) := w32' (by omega)
    have hb1 : y % 2 * 2147483648 < 4294967296 := by omega
    have hb2 : y % 2 < 2 := by omega
    have hb3 : x / 2 < 4294967296 := by omega
    simp -implicitDefEqProofs (disch := omega) only [↓ZD,ZP,cnd_t,cnd_f,↓reduceIte,Env.put,stepO,lenV,binV,binInt,unV,loadV,sliceV,boundOf,convV,slstrV,if_pos,if_neg,Int.reduceToNat,Nat.reducePow,V.cells,V.isCell,V.boxable,Nat.reduceEqDiff,reduceCtorEq,reduceIte,ite_self,enterEnv,e0,e3,e4,nsl,hat,limb,shl_c,shr_c]
    refine calD_ro (by simp [roL, V.ro, nl_ro]) g2 rfl ?_
    simp -implicitDefEqProofs (disch := omega) only [↓ZD,ZP,cnd_t,cnd_f,↓reduceIte,Env.put,stepO,lenV,binV,binInt,unV,loadV,sliceV,boundOf,convV,slstrV,if_pos,if_neg,Int.reduceToNat,Nat.reducePow,V.cells,V.isCell,V.boxable,Nat.reduceEqDiff,reduceCtorEq,reduceIte,ite_self,enterEnv,e0,e3,e4,nsl,hat,limb,shl_c,shr_c,w32,Nat.pow_one,hand,hor,hwl,fillL,evParts,splice,List.take_zero,List.take_succ_cons,List.drop_succ_cons,List.drop_zero,List.drop_nil,happ]
    exact ⟨_, by simp; omega, O ++ [x / 2 + y % 2 * 2147483648], v', hO', by simp; omega, rfl, by simp [← hval, hlo], rfl, by simp⟩
  · rw [List.drop_eq_nil_of_le hge, shr, List.append_nil] at hval
    have hm := shr_lm 1 a
    have hv := shr_val 1 (by decide) ha
    simp -implicitDefEqProofs (disch := omega) only [↓ZD,ZP,cnd_t,cnd_f,↓reduceIte,Env.put,stepO,lenV,binV,binInt,unV,loadV,sliceV,boundOf,convV,slstrV,if_pos,if_neg,Int.reduceToNat,Nat.reducePow,V.cells,V.isCell,V.boxable,Nat.reduceEqDiff,reduceCtorEq,reduceIte,ite_self,enterEnv,e0,e3,e4,nsl]
    refine calP_at hO (fun ex => lim512 ex O (by rw [hval]; exact hm) (by omega)) (nf_ro _) fun H'' => ?_
    simp -implicitDefEqProofs (disch := omega) only [↓ZD,ZP,cnd_t,cnd_f,↓reduceIte,Env.put,stepO,lenV,binV,binInt,unV,loadV,sliceV,boundOf,convV,slstrV,if_pos,if_neg,Int.reduceToNat,Nat.reducePow,V.cells,V.isCell,V.boxable,Nat.reduceEqDiff,reduceCtorEq,reduceIte,ite_self,enterEnv]
    refine gives_eq (nf_ro _) ?_
    rw [hval, hv]; rfl
end Fe
open Go Go.Proofs
namespace Fe
def b538 : C :=
 (.seq
 (.region false [
 oQ 4 (.mov (.c (.int .u32 0)))])
 (.seq
 (.region false [
 oQ 5 (.mov (.t 0)),
 oQ 6 (.mov (.t 1)),
 oQ 7 (.bin 0 .quo (.t 6) (.c (.int .i64 32))),
 oQ 8 (.iaddr 1 (.t 5) (.t 7)),
 oQ 9 (.load false 1 (.t 8)),
 oQ 10 (.mov (.t 1)),
 oQ 11 (.bin 0 .rem (.t 10) (.c (.int .i64 32))),
 oQ 12 (.bin 0 .shr (.t 9) (.t 11)),
 oQ 13 (.bin 0 .and (.t 12) (.c (.int .u32 1))),
 oQ 4 (.mov (.t 13))])
 .ret))
def c538 : CF := ⟨14, 2, [.mov (.t 4)], b538⟩
def b536 : C :=
 (.seq
 (.region false [
 oQ 2 (.mov (.c (.int .i64 0)))])
 (.seq
 (.region false [
 oQ 6 (.mov (.t 0)),
 ⟨some 7, .call false (.c (.fn 269 [] [])) [.t 6], none⟩,
 oQ 3 (.mov (.t 7))])
 (.seq
 (.seq
 (.region false [
 oQ 8 (.mov (.t 3)),
 oQ 9 (.len false (.t 8)),
 oQ 10 (.bin 0 .eql (.t 9) (.c (.int .i64 0)))])
 (.cond (.t 10)
 (.seq
 (.region false [
 oQ 2 (.mov (.c (.int .i64 0)))])
 .ret)
 .skip))
 (.seq
 (.region false [
 oQ 11 (.mov (.t 3)),
 oQ 12 (.len false (.t 11)),
 oQ 13 (.bin 0 .sub (.t 12) (.c (.int .i64 1))),
 oQ 14 (.bin 0 .mul (.c (.int .i64 32)) (.t 13)),
 oQ 4 (.mov (.t 14))])
 (.seq
 (.seq
 (.region false [
 oQ 15 (.mov (.t 3)),
 oQ 16 (.mov (.t 3)),
 oQ 17 (.len false (.t 16)),
 oQ 18 (.bin 0 .sub (.t 17) (.c (.int .i64 1))),
 oQ 19 (.iaddr 1 (.t 15) (.t 18)),
 oQ 20 (.load false 1 (.t 19)),
 oQ 5 (.mov (.t 20))])
 (.block 0
 (.loop
 (.seq
 (.seq
 (.region false [
 oQ 21 (.mov (.t 5)),
 oQ 22 (.bin 0 .gtr (.t 21) (.c (.int .u32 0)))])
 (.cond (.t 22)
 .skip
 (.exit 0)))
 (.seq
 (.block 1
 (.region false [
 oQ 25 (.mov (.t 4)),
 oQ 26 (.bin 0 .add (.t 25) (.c (.int .i64 1))),
 oQ 4 (.mov (.t 26))]))
 (.region false [
 oQ 23 (.mov (.t 5)),
 oQ 24 (.bin 0 .shr (.t 23) (.c (.int .u64 1))),
 oQ 5 (.mov (.t 24))]))))))
 (.seq
 (.region false [
 oQ 27 (.mov (.t 4)),
 oQ 2 (.mov (.t 27))])
 .ret))))))
def c536 : CF := ⟨28, 1, [.mov (.t 2)], b536⟩
def b514 : C :=
 (.seq
 (.region false [
 oQ 4 (.mov (.c (.sl true [] 0))),
 oQ 5 (.mov (.c (.sl true [] 0))),
 oQ 6 (.mov (.c (.bool false)))])
 (.seq
 (.seq
 (.region false [
 oQ 11 (.mov (.t 1)),
 ⟨some 12, .call false (.c (.fn 269 [] [])) [.t 11], none⟩,
 oQ 13 (.len false (.t 12)),
 oQ 14 (.bin 0 .eql (.t 13) (.c (.int .i64 0)))])
 (.cond (.t 14)
 (.seq
 (.region false [
 oQ 4 (.mov (.c (.sl true [] 0))),
 oQ 5 (.mov (.c (.sl true [] 0))),
 oQ 6 (.mov (.c (.bool false)))])
 .ret)
 .skip))
 (.seq
 (.region false [
 oQ 7 (.mov (.c (.sl true [] 0))),
 oQ 8 (.mov (.c (.sl true [] 0)))])
 (.seq
 (.seq
 (.region false [
 oQ 15 (.mov (.t 0)),
 ⟨some 16, .call false (.c (.fn 303 [] [])) [.t 15], none⟩,
 oQ 17 (.bin 0 .sub (.t 16) (.c (.int .i64 1))),
 oQ 9 (.mov (.t 17))])
 (.block 0
 (.loop
 (.seq
 (.seq
 (.region false [
 oQ 18 (.mov (.t 9)),
 oQ 19 (.bin 0 .geq (.t 18) (.c (.int .i64 0)))])
 (.cond (.t 19)
 .skip
 (.exit 0)))
 (.seq
 (.block 1
 (.seq
 (.region false [
 oQ 22 (.mov (.t 8)),
 oQ 23 (.mov (.t 0)),
 oQ 24 (.mov (.t 9)),
 ⟨some 25, .call false (.c (.fn 305 [] [])) [.t 23, .t 24], none⟩,
 ⟨some 26, .call false (.c (.fn 304 [] [])) [.t 22, .t 25], none⟩,
 oQ 8 (.mov (.t 26))])
 (.seq
 (.region false [
 oQ 10 (.mov (.c (.int .u32 0)))])
 (.seq
 (.seq
 (.region false [
 oQ 27 (.mov (.t 8)),
 oQ 28 (.mov (.t 1)),
 ⟨some 29, .call false (.c (.fn 274 [] [])) [.t 27, .t 28], none⟩,
 oQ 30 (.bin 0 .geq (.t 29) (.c (.int .i64 0)))])
 (.cond (.t 30)
 (.seq
 (.region false [
 oQ 32 (.mov (.t 8)),
 oQ 33 (.mov (.t 1)),
 ⟨some 34, .call false (.c (.fn 306 [] [])) [.t 32, .t 33], none⟩,
 oQ 31 (.mov (.t 34)),
 oQ 35 (.extract (.t 31) 0),
 oQ 36 (.extract (.t 31) 1),
 oQ 8 (.mov (.t 35))])
 (.region false [
 oQ 10 (.mov (.c (.int .u32 1)))]))
 .skip))
 (.region false [
 oQ 37 (.mov (.t 7)),
 oQ 38 (.mov (.t 10)),
 ⟨some 39, .call false (.c (.fn 304 [] [])) [.t 37, .t 38], none⟩,
 oQ 7 (.mov (.t 39))])))))
 (.region false [
 oQ 20 (.mov (.t 9)),
 oQ 21 (.bin 0 .sub (.t 20) (.c (.int .i64 1))),
 oQ 9 (.mov (.t 21))]))))))
 (.seq
 (.region false [
 oQ 40 (.mov (.t 7)),
 oQ 41 (.mov (.t 8)),
 oQ 4 (.mov (.t 40)),
 oQ 5 (.mov (.t 41)),
 oQ 6 (.mov (.c (.bool true)))])
 .ret)))))
def c514 : CF := ⟨42, 2, [.mov (.t 4), .mov (.t 5), .mov (.t 6)], b514⟩
theorem s538 : stripF Go.Proofs.Tryz.prog 305 = some c538 := by kernel_rfl
theorem s536 : stripF Go.Proofs.Tryz.prog 303 = some c536 := by kernel_rfl
theorem s514 : stripF Go.Proofs.Tryz.prog 271 = some c514 := by kernel_rfl

theorem bit_val (A Z : List Nat) (x i : Nat) (hA : Lm A) (hl : A.length = i / 32) : val (A ++ x :: Z) / 2 ^ i % 2 = x / 2 ^ (i % 32) % 2 := by
  have h1 : (2 : Nat) ^ i = 4294967296 ^ A.length * 2 ^ (i % 32) := by
    rw [hl, show (4294967296 : Nat) = 2 ^ 32 by decide, ← Nat.pow_mul, ← Nat.pow_add]
    congr 1; omega
  have h2 := val_lt hA
  rw [val_app, val, h1, ← Nat.div_div_eq_div_mul]
  generalize 4294967296 ^ A.length = K at *
  have hK : 0 < K := by omega
  rw [Nat.add_mul_div_left _ _ hK, Nat.div_eq_of_lt h2, Nat.zero_add]
  have hr : i % 32 ≤ 31 := by omega
  generalize i % 32 = r at *
  have h3 : (4294967296 : Nat) = 2 ^ r * (2 * 2 ^ (31 - r)) := by
    rw [show (2 : Nat) * 2 ^ (31 - r) = 2 ^ (31 - r + 1) by rw [Nat.pow_succ, Nat.mul_comm], ← Nat.pow_add, show r + (31 - r + 1) = 32 by omega]
  rw [h3, Nat.mul_assoc, Nat.add_mul_div_left _ _ (Nat.two_pow_pos r), Nat.mul_assoc, Nat.add_mul_mod_self_left]

theorem good538 (ex : Bool) (a : List Nat) (i : Nat) (ha : Lm a) (hl : a.length ≤ 1000000) (hi : i / 32 < a.length) : Good Go.Proofs.Tryz.prog 305 [nsl ex a, .int .i64 (i : Nat)] (.int .u32 (val a / 2 ^ i % 2 : Nat)) := by
  refine good_go mix s538 (Nat.le_of_ble_eq_true rfl) fun e he => ?_
  have e0 : e 0 = nsl ex a := he 0
  have e1 : e 1 = .int .i64 (i : Nat) := he 1
  clear he
  simp only [c538,b538, oQ]
  obtain ⟨A, x, Z, rfl, hA⟩ := mid hi
  have hat := nl_at A Z x hA
  have hq : ((i : Nat) : Int).tdiv 32 = ((i / 32 : Nat) : Int) := tdiv_c i 32
  have hm : ((i : Nat) : Int).tmod 32 = ((i % 32 : Nat) : Int) := tmod_c i 32
  have hx : x < 4294967296 := ha x (by simp)
  have hand := and1_32 (x / 2 ^ (i % 32)) (Nat.lt_of_le_of_lt (Nat.div_le_self _ _) hx)
  have hb := bit_val A Z x i ha.left hA
  have h2 : x / 2 ^ (i % 32) % 2 < 2 := Nat.mod_lt _ (by decide)
  simp -implicitDefEqProofs (disch := omega) only [↓ZD,ZP,cnd_t,cnd_f,↓reduceIte,Env.put,stepO,lenV,binV,binInt,unV,loadV,sliceV,boundOf,convV,slstrV,if_pos,if_neg,Int.reduceToNat,Nat.reducePow,V.cells,V.isCell,V.boxable,Nat.reduceEqDiff,reduceCtorEq,reduceIte,ite_self,enterEnv,e0,e1,nsl,hq,hm,hat,limb,shr_c,hand]
  exact gives_eq rfl (by rw [hb]; rfl)

/-- How many bits a limb has. -/
def bl (t : Nat) : Nat := if t = 0 then 0 else Nat.log2 t + 1
theorem bl_half {t : Nat} (h : t ≠ 0) : bl t = bl (t / 2) + 1 := by
  rw [bl, if_neg h, bl]
  by_cases h2 : t / 2 = 0
  · rw [if_pos h2]
    have : t = 1 := by omega
    subst this
    decide
  · rw [if_neg h2]
    have := log2_down t 1 (by omega)
    rw [Nat.pow_one] at this
    omega
theorem bl_lt (t : Nat) : t < 2 ^ bl t := by
  rw [bl]
  split
  · rename_i h; subst h; decide
  · rename_i h
    exact Nat.lt_log2_self
theorem bl_le {t : Nat} (h : t < 4294967296) : bl t ≤ 32 := by
  rw [bl]
  split
  · omega
  · rename_i h0
    have := (Nat.log2_lt (k := 32) h0).2 (by simpa using h)
    omega

theorem good536 (ex : Bool) (a : List Nat) (ha : Lm a) (hl : a.length ≤ 1000000) : ∃ n : Nat, val a < 2 ^ n ∧ n ≤ 32 * (lim (val a)).length ∧ Good Go.Proofs.Tryz.prog 303 [nsl ex a] (.int .i64 (n : Nat)) := by
  have hXl : (lim (val a)).length ≤ 1000000 := Nat.le_trans (lim_len (val_lt ha)) hl
  by_cases h0 : val a = 0
  · refine ⟨0, by rw [h0]; decide, Nat.zero_le _, ?_⟩
    refine good_go mix s536 (Nat.le_of_ble_eq_true rfl) fun e he => ?_
    have e0 : e 0 = nsl ex a := he 0
    clear he
    simp only [c536,b536, oQ]
    simp -implicitDefEqProofs (disch := omega) only [↓ZD,ZP,cnd_t,cnd_f,↓reduceIte,Env.put,stepO,lenV,binV,binInt,unV,loadV,sliceV,boundOf,convV,slstrV,if_pos,if_neg,Int.reduceToNat,Nat.reducePow,V.cells,V.isCell,V.boxable,Nat.reduceEqDiff,reduceCtorEq,reduceIte,ite_self,enterEnv,e0]
    refine calP_ro (nl_ro_1 _ _) (lim512 ex a ha (by omega)) (nf_ro _) ?_
    rw [h0, lim_zero]
    simp -implicitDefEqProofs (disch := omega) only [↓ZD,ZP,cnd_t,cnd_f,↓reduceIte,Env.put,stepO,lenV,binV,binInt,unV,loadV,sliceV,boundOf,convV,slstrV,if_pos,if_neg,Int.reduceToNat,Nat.reducePow,V.cells,V.isCell,V.boxable,Nat.reduceEqDiff,reduceCtorEq,reduceIte,ite_self,enterEnv,e0,nf,nsl]
    exact gives_eq rfl rfl
  obtain ⟨B, t, hlim, ht0, htl, hB⟩ := lim_last h0
  have hv := lim_val (val a)
  have hln : (lim (val a)).length = B.length + 1 := by rw [hlim]; simp
  have hblt := bl_le htl
  refine ⟨32 * B.length + bl t, ?_, by omega, ?_⟩
  · rw [← hv, hlim, val_snoc]
    have h1 := val_lt hB
    have h2 := bl_lt t
    rw [Nat.pow_add, Nat.pow_mul, show (2 : Nat) ^ 32 = 4294967296 by decide]
    generalize 4294967296 ^ B.length = K at *
    have h3 := Nat.mul_le_mul_left K h2
    rw [Nat.mul_succ] at h3
    have : t * K = K * t := Nat.mul_comm _ _
    omega
  · refine good_go mix s536 (Nat.le_of_ble_eq_true rfl) fun e he => ?_
    have e0 : e 0 = nsl ex a := he 0
    clear he
    simp only [c536,b536, oQ]
    simp -implicitDefEqProofs (disch := omega) only [↓ZD,ZP,cnd_t,cnd_f,↓reduceIte,Env.put,stepO,lenV,binV,binInt,unV,loadV,sliceV,boundOf,convV,slstrV,if_pos,if_neg,Int.reduceToNat,Nat.reducePow,V.cells,V.isCell,V.boxable,Nat.reduceEqDiff,reduceCtorEq,reduceIte,ite_self,enterEnv,e0]
    refine calP_ro (nl_ro_1 _ _) (lim512 ex a ha (by omega)) (nf_ro _) ?_
    rw [hlim]
    have hat : (nl (B ++ [t]))[B.length]? = some (limb t) := by simp [nl]
    have hsub : ((B.length + 1 : Nat) : Int) - 1 = ((B.length : Nat) : Int) := by omega
    have hll : (B ++ [t]).length = B.length + 1 := by simp
    have hmul : (32 : Int) * ((B.length : Nat) : Int) = ((32 * B.length : Nat) : Int) := by omega
    simp -implicitDefEqProofs (disch := omega) only [↓ZD,ZP,cnd_t,cnd_f,↓reduceIte,Env.put,stepO,lenV,binV,binInt,unV,loadV,sliceV,boundOf,convV,slstrV,if_pos,if_neg,Int.reduceToNat,Nat.reducePow,V.cells,V.isCell,V.boxable,Nat.reduceEqDiff,reduceCtorEq,reduceIte,ite_self,enterEnv,e0,nf,nsl,hll,hsub,hat,limb,hmul]
    refine go_loop (fun m e H => m < 4294967296 ∧ ∃ n : Nat, n + bl m = 32 * B.length + bl t ∧ e 4 = .int .i64 (n : Nat) ∧ e 5 = .int .u32 (m : Nat)) t ⟨htl, 32 * B.length, rfl, ?_, ?_⟩ ?_
    · simp [Env.set]
    · simp [Env.set]
    rintro m e H ⟨hm, n, hn, e4, e5⟩
    by_cases hz : m = 0
    · subst hz
      simp -implicitDefEqProofs (disch := omega) only [↓ZD,ZP,cnd_t,cnd_f,↓reduceIte,Env.put,stepO,lenV,binV,binInt,unV,loadV,sliceV,boundOf,convV,slstrV,if_pos,if_neg,Int.reduceToNat,Nat.reducePow,V.cells,V.isCell,V.boxable,Nat.reduceEqDiff,reduceCtorEq,reduceIte,ite_self,enterEnv,e4,e5]
      exact gives_eq rfl (by rw [← hn]; rfl)
    · have hbh := bl_half hz
      simp -implicitDefEqProofs (disch := omega) only [↓ZD,ZP,cnd_t,cnd_f,↓reduceIte,Env.put,stepO,lenV,binV,binInt,unV,loadV,sliceV,boundOf,convV,slstrV,if_pos,if_neg,Int.reduceToNat,Nat.reducePow,V.cells,V.isCell,V.boxable,Nat.reduceEqDiff,reduceCtorEq,reduceIte,ite_self,enterEnv,e4,e5,shr_c]
      exact ⟨m / 2, by omega, by omega, n + 1, by omega, rfl, rfl⟩

theorem div_step {T B b : Nat} (hB : 0 < B) (hb : b ≤ 1) : (B ≤ 2 * (T % B) + b → (2 * T + b) / B = 2 * (T / B) + 1 ∧ (2 * T + b) % B = 2 * (T % B) + b - B) ∧ (2 * (T % B) + b < B → (2 * T + b) / B = 2 * (T / B) ∧ (2 * T + b) % B = 2 * (T % B) + b) := by
  have h1 : 2 * T + b = 2 * (T % B) + b + B * (2 * (T / B)) := by
    have := Nat.div_add_mod T B
    rw [Nat.mul_left_comm]; omega
  have hr := Nat.mod_lt T hB
  rw [h1, Nat.add_mul_div_left _ _ hB, Nat.add_mul_mod_self_left]
  refine ⟨fun h => ?_, fun h => ?_⟩
  · have e1 : (2 * (T % B) + b) / B = 1 := by
      rw [Nat.div_eq_sub_div hB h, Nat.div_eq_of_lt (by omega)]
    have e2 : (2 * (T % B) + b) % B = 2 * (T % B) + b - B := by
      rw [Nat.mod_eq_sub_mod h, Nat.mod_eq_of_lt (by omega)]
    exact ⟨by rw [e1]; omega, e2⟩
  · exact ⟨by rw [Nat.div_eq_of_lt h]; omega, Nat.mod_eq_of_lt h⟩

set_option maxHeartbeats 2000000 in
theorem good514 (exa exb : Bool) (a b : List Nat) (ha : Lm a) (hb : Lm b) (hla : a.length ≤ 900000) (hlb : b.length ≤ 900000) : Good Go.Proofs.Tryz.prog 271 [nsl exa a, nsl exb b] (divR (val a) (val b)) := by
  refine good_go mix s514 (Nat.le_of_ble_eq_true rfl) fun e he => ?_
  have e0 : e 0 = nsl exa a := he 0
  have e1 : e 1 = nsl exb b := he 1
  clear he
  simp only [c514,b514, oQ]
  simp -implicitDefEqProofs (disch := omega) only [↓ZD,ZP,cnd_t,cnd_f,↓reduceIte,Env.put,stepO,lenV,binV,binInt,unV,loadV,sliceV,boundOf,convV,slstrV,if_pos,if_neg,Int.reduceToNat,Nat.reducePow,V.cells,V.isCell,V.boxable,Nat.reduceEqDiff,reduceCtorEq,reduceIte,ite_self,enterEnv,e0,e1]
  refine calP_ro (nl_ro_1 _ _) (lim512 exb b hb (by omega)) (nf_ro _) ?_
  by_cases hb0 : val b = 0
  · rw [divR, if_pos hb0, hb0, lim_zero]
    simp -implicitDefEqProofs (disch := omega) only [↓ZD,ZP,cnd_t,cnd_f,↓reduceIte,Env.put,stepO,lenV,binV,binInt,unV,loadV,sliceV,boundOf,convV,slstrV,if_pos,if_neg,Int.reduceToNat,Nat.reducePow,V.cells,V.isCell,V.boxable,Nat.reduceEqDiff,reduceCtorEq,reduceIte,ite_self,enterEnv,e0,e1,nf,nsl]
    exact gives_eq rfl rfl
  have hbp : (lim (val b)).length ≠ 0 := (not_congr lim_nil_len).2 hb0
  have hbl : (lim (val b)).length ≤ 900000 := Nat.le_trans (lim_len (val_lt hb)) hlb
  obtain ⟨n, hn1, hn2, hn3⟩ := good536 exa a ha (by omega)
  have hal : (lim (val a)).length ≤ a.length := lim_len (val_lt ha)
  rw [divR, if_neg hb0]
  have hB : 0 < val b := by omega
  simp -implicitDefEqProofs (disch := omega) only [↓ZD,ZP,cnd_t,cnd_f,↓reduceIte,Env.put,stepO,lenV,binV,binInt,unV,loadV,sliceV,boundOf,convV,slstrV,if_pos,if_neg,Int.reduceToNat,Nat.reducePow,V.cells,V.isCell,V.boxable,Nat.reduceEqDiff,reduceCtorEq,reduceIte,ite_self,enterEnv,e0,e1,nf,nsl]
  refine calP_ro (nl_ro_1 _ _) hn3 rfl ?_
  simp -implicitDefEqProofs (disch := omega) only [↓ZD,ZP,cnd_t,cnd_f,↓reduceIte,Env.put,stepO,lenV,binV,binInt,unV,loadV,sliceV,boundOf,convV,slstrV,if_pos,if_neg,Int.reduceToNat,Nat.reducePow,V.cells,V.isCell,V.boxable,Nat.reduceEqDiff,reduceCtorEq,reduceIte,ite_self,enterEnv,e0,e1,nf,nsl]
  refine go_loop (fun k e H => k ≤ n ∧ ∃ eq er, e 0 = nsl exa a ∧ e 1 = nsl exb b ∧ e 7 = nsl eq (lim (val a / 2 ^ k / val b)) ∧ e 8 = nsl er (lim (val a / 2 ^ k % val b)) ∧ e 9 = .int .i64 ((k : Int) - 1)) n ⟨Nat.le_refl _, true, true, ?_, ?_, ?_, ?_, ?_⟩ ?_
  · simp [Env.set, e0, nsl]
  · simp [Env.set, e1, nsl]
  · rw [Nat.div_eq_of_lt hn1, Nat.zero_div, lim_zero]; simp [Env.set, nsl, nl]
  · rw [Nat.div_eq_of_lt hn1, Nat.zero_mod, lim_zero]; simp [Env.set, nsl, nl]
  · simp [Env.set]
  clear e0 e1
  rintro k e H ⟨hk, eq, er, e0, e1, e7, e8, e9⟩
  cases k with
  | zero =>
    have hz : ((0 : Nat) : Int) - 1 = -1 := rfl
    rw [hz] at e9
    rw [Nat.pow_zero, Nat.div_one] at e7 e8
    simp -implicitDefEqProofs (disch := omega) only [↓ZD,ZP,cnd_t,cnd_f,↓reduceIte,Env.put,stepO,lenV,binV,binInt,unV,loadV,sliceV,boundOf,convV,slstrV,if_pos,if_neg,Int.reduceToNat,Nat.reducePow,V.cells,V.isCell,V.boxable,Nat.reduceEqDiff,reduceCtorEq,reduceIte,ite_self,enterEnv,e0,e1,e7,e8,e9]
    refine gives_eq (by simp [V.ro, roL, nsl_ro]) ?_
    rfl
  | succ k =>
    have hz : ((k + 1 : Nat) : Int) - 1 = ((k : Nat) : Int) := by omega
    rw [hz] at e9
    have hT : val a / 2 ^ k = 2 * (val a / 2 ^ (k + 1)) + val a / 2 ^ k % 2 := by
      rw [Nat.pow_succ, ← Nat.div_div_eq_div_mul]; omega
    have hbit : val a / 2 ^ k % 2 ≤ 1 := by omega
    have gbit := good538 exa a k ha (by omega) (by omega)
    have hTA : val a / 2 ^ (k + 1) ≤ val a := Nat.div_le_self _ _
    generalize val a / 2 ^ k % 2 = bit at *
    generalize val a / 2 ^ (k + 1) = T at *
    have hr := Nat.mod_lt T hB
    have hq : T / val b ≤ val a := Nat.le_trans (Nat.div_le_self _ _) hTA
    have hql : (lim (T / val b)).length ≤ 900000 := Nat.le_trans (lim_mono hq) (by omega)
    have hrl : (lim (T % val b)).length ≤ 900000 := Nat.le_trans (lim_mono (Nat.le_of_lt hr)) hbl
    have g1 := good537 er (lim (T % val b)) bit (lim_lm _) (by omega) hbit
    rw [lim_val] at g1
    have hr2 : (lim (2 * (T % val b) + bit)).length ≤ 900001 := by
      have h1 := val_lt (lim_lm (val b))
      rw [lim_val] at h1
      have := lim_len (n := 2 * (T % val b) + bit) (k := (lim (val b)).length + 1) (by rw [Nat.pow_succ]; omega)
      omega
    have g2 := good522 false exb (lim (2 * (T % val b) + bit)) b (lim_lm _) hb (by omega) (by omega)
    have g3 := good539 false exb (lim (2 * (T % val b) + bit)) b (lim_lm _) hb (by omega) (by omega)
    rw [lim_val] at g2 g3
    have hds := div_step (T := T) hB hbit
    simp -implicitDefEqProofs (disch := omega) only [↓ZD,ZP,cnd_t,cnd_f,↓reduceIte,Env.put,stepO,lenV,binV,binInt,unV,loadV,sliceV,boundOf,convV,slstrV,if_pos,if_neg,Int.reduceToNat,Nat.reducePow,V.cells,V.isCell,V.boxable,Nat.reduceEqDiff,reduceCtorEq,reduceIte,ite_self,enterEnv,e0,e1,e7,e8,e9]
    refine calP_ro (by simp [roL, V.ro, nsl_ro]) gbit rfl ?_
    simp -implicitDefEqProofs (disch := omega) only [↓ZD,ZP,cnd_t,cnd_f,↓reduceIte,Env.put,stepO,lenV,binV,binInt,unV,loadV,sliceV,boundOf,convV,slstrV,if_pos,if_neg,Int.reduceToNat,Nat.reducePow,V.cells,V.isCell,V.boxable,Nat.reduceEqDiff,reduceCtorEq,reduceIte,ite_self,enterEnv,e0,e1,e7,e8,e9]
    refine calP_ro (by simp [roL, V.ro, nsl_ro]) g1 (nf_ro _) ?_
    simp -implicitDefEqProofs (disch := omega) only [↓ZD,ZP,cnd_t,cnd_f,↓reduceIte,Env.put,stepO,lenV,binV,binInt,unV,loadV,sliceV,boundOf,convV,slstrV,if_pos,if_neg,Int.reduceToNat,Nat.reducePow,V.cells,V.isCell,V.boxable,Nat.reduceEqDiff,reduceCtorEq,reduceIte,ite_self,enterEnv,e0,e1,e7,e8,e9,nf]
    refine calP_ro (by simp [roL, V.ro, nsl_ro]) g2 rfl ?_
    rcases Nat.lt_or_ge (2 * (T % val b) + bit) (val b) with hlt | hge
    · have hcmp : decide (cmpN (2 * (T % val b) + bit) (val b) ≥ 0) = false := by rw [cmpN, if_pos hlt]; decide
      obtain ⟨h1, h2⟩ := hds.2 hlt
      have g4 := good537 eq (lim (T / val b)) 0 (lim_lm _) (by omega) (by decide)
      rw [lim_val, Nat.add_zero, ← h1] at g4
      simp -implicitDefEqProofs (disch := omega) only [↓ZD,ZP,cnd_t,cnd_f,↓reduceIte,Env.put,stepO,lenV,binV,binInt,unV,loadV,sliceV,boundOf,convV,slstrV,if_pos,if_neg,Int.reduceToNat,Nat.reducePow,V.cells,V.isCell,V.boxable,Nat.reduceEqDiff,reduceCtorEq,reduceIte,ite_self,enterEnv,e0,e1,e7,e8,e9,hcmp,nf]
      refine calP_ro (by simp [roL, V.ro, nsl_ro]) g4 (nf_ro _) ?_
      simp -implicitDefEqProofs (disch := omega) only [↓ZD,ZP,cnd_t,cnd_f,↓reduceIte,Env.put,stepO,lenV,binV,binInt,unV,loadV,sliceV,boundOf,convV,slstrV,if_pos,if_neg,Int.reduceToNat,Nat.reducePow,V.cells,V.isCell,V.boxable,Nat.reduceEqDiff,reduceCtorEq,reduceIte,ite_self,enterEnv,e0,e1,e7,e8,e9,nf]
      exact ⟨k, by omega, by omega, false, false, by rw [hT], by rw [hT, h2], rfl⟩
    · have hcmp : decide (cmpN (2 * (T % val b) + bit) (val b) ≥ 0) = true := by rw [cmpN, if_neg (by omega)]; split <;> decide
      obtain ⟨h1, h2⟩ := hds.1 hge
      have g4 := good537 eq (lim (T / val b)) 1 (lim_lm _) (by omega) (by decide)
      rw [lim_val, ← h1] at g4
      rw [minR, if_neg (by omega)] at g3
      simp -implicitDefEqProofs (disch := omega) only [↓ZD,ZP,cnd_t,cnd_f,↓reduceIte,Env.put,stepO,lenV,binV,binInt,unV,loadV,sliceV,boundOf,convV,slstrV,if_pos,if_neg,Int.reduceToNat,Nat.reducePow,V.cells,V.isCell,V.boxable,Nat.reduceEqDiff,reduceCtorEq,reduceIte,ite_self,enterEnv,e0,e1,e7,e8,e9,hcmp,nf]
      refine calP_ro (by simp [roL, V.ro, nsl_ro]) g3 (by simp [roL, V.ro, nf_ro]) ?_
      simp -implicitDefEqProofs (disch := omega) only [↓ZD,ZP,cnd_t,cnd_f,↓reduceIte,Env.put,stepO,lenV,binV,binInt,unV,loadV,sliceV,boundOf,convV,slstrV,if_pos,if_neg,Int.reduceToNat,Nat.reducePow,V.cells,V.isCell,V.boxable,Nat.reduceEqDiff,reduceCtorEq,reduceIte,ite_self,enterEnv,e0,e1,e7,e8,e9,nf]
      refine calP_ro (by simp [roL, V.ro, nsl_ro]) g4 (nf_ro _) ?_
      simp -implicitDefEqProofs (disch := omega) only [↓ZD,ZP,cnd_t,cnd_f,↓reduceIte,Env.put,stepO,lenV,binV,binInt,unV,loadV,sliceV,boundOf,convV,slstrV,if_pos,if_neg,Int.reduceToNat,Nat.reducePow,V.cells,V.isCell,V.boxable,Nat.reduceEqDiff,reduceCtorEq,reduceIte,ite_self,enterEnv,e0,e1,e7,e8,e9,nf]
      exact ⟨k, by omega, by omega, false, false, by rw [hT], by rw [hT, h2], rfl⟩
end Fe
open Go Go.Proofs
namespace Fe
def b535 : C :=
 (.seq
 (.region false [
 oQ 4 (.mov (.c (.sl true [] 0)))])
 (.seq
 (.region false [
 oQ 7 (.mov (.t 0)),
 ⟨some 8, .call false (.c (.fn 269 [] [])) [.t 7], none⟩,
 oQ 9 (.mov (.t 1)),
 ⟨some 10, .call false (.c (.fn 269 [] [])) [.t 9], none⟩,
 oQ 0 (.mov (.t 8)),
 oQ 1 (.mov (.t 10))])
 (.seq
 (.region false [
 oQ 5 (.mov (.c (.int .i64 0)))])
 (.seq
 (.block 0
 (.loop
 (.seq
 (.seq
 (.region false [
 oQ 11 (.mov (.t 0)),
 oQ 12 (.len false (.t 11)),
 oQ 13 (.bin 0 .gtr (.t 12) (.c (.int .i64 0))),
 oQ 14 (.mov (.t 13)),
 ⟨some 15, .op (.mov (.t 1)), some (14, true)⟩,
 ⟨some 16, .op (.len false (.t 15)), some (14, true)⟩,
 ⟨some 17, .op (.bin 0 .gtr (.t 16) (.c (.int .i64 0))), some (14, true)⟩,
 oQ 18 (.pick (.t 14) (.t 17) (.c (.bool false))),
 oQ 19 (.mov (.t 18)),
 ⟨some 20, .op (.mov (.t 0)), some (19, true)⟩,
 ⟨some 21, .op (.iaddr 1 (.t 20) (.c (.int .i64 0))), some (19, true)⟩,
 ⟨some 22, .op (.load false 1 (.t 21)), some (19, true)⟩,
 ⟨some 23, .op (.bin 0 .and (.t 22) (.c (.int .u32 1))), some (19, true)⟩,
 ⟨some 24, .op (.bin 0 .eql (.t 23) (.c (.int .u32 0))), some (19, true)⟩,
 oQ 25 (.pick (.t 19) (.t 24) (.c (.bool false))),
 oQ 26 (.mov (.t 25)),
 ⟨some 27, .op (.mov (.t 1)), some (26, true)⟩,
 ⟨some 28, .op (.iaddr 1 (.t 27) (.c (.int .i64 0))), some (26, true)⟩,
 ⟨some 29, .op (.load false 1 (.t 28)), some (26, true)⟩,
 ⟨some 30, .op (.bin 0 .and (.t 29) (.c (.int .u32 1))), some (26, true)⟩,
 ⟨some 31, .op (.bin 0 .eql (.t 30) (.c (.int .u32 0))), some (26, true)⟩,
 oQ 32 (.pick (.t 26) (.t 31) (.c (.bool false)))])
 (.cond (.t 32)
 .skip
 (.exit 0)))
 (.block 1
 (.seq
 (.region false [
 oQ 33 (.mov (.t 0)),
 ⟨some 34, .call false (.c (.fn 326 [] [])) [.t 33], none⟩,
 oQ 35 (.mov (.t 1)),
 ⟨some 36, .call false (.c (.fn 326 [] [])) [.t 35], none⟩,
 oQ 0 (.mov (.t 34)),
 oQ 1 (.mov (.t 36))])
 (.region false [
 oQ 37 (.mov (.t 5)),
 oQ 38 (.bin 0 .add (.t 37) (.c (.int .i64 1))),
 oQ 5 (.mov (.t 38))]))))))
 (.seq
 (.block 2
 (.loop
 (.seq
 (.seq
 (.region false [
 oQ 39 (.mov (.t 0)),
 oQ 40 (.len false (.t 39)),
 oQ 41 (.bin 0 .gtr (.t 40) (.c (.int .i64 0))),
 oQ 42 (.mov (.t 41)),
 ⟨some 43, .op (.mov (.t 1)), some (42, true)⟩,
 ⟨some 44, .op (.len false (.t 43)), some (42, true)⟩,
 ⟨some 45, .op (.bin 0 .gtr (.t 44) (.c (.int .i64 0))), some (42, true)⟩,
 oQ 46 (.pick (.t 42) (.t 45) (.c (.bool false)))])
 (.cond (.t 46)
 .skip
 (.exit 2)))
 (.block 3
 (.block 4
 (.seq
 (.region false [
 oQ 54 (.mov (.t 0)),
 oQ 55 (.iaddr 1 (.t 54) (.c (.int .i64 0))),
 oQ 56 (.load false 1 (.t 55)),
 oQ 57 (.bin 0 .and (.t 56) (.c (.int .u32 1))),
 oQ 58 (.bin 0 .eql (.t 57) (.c (.int .u32 0))),
 oQ 53 (.mov (.t 58))])
 (.cond (.t 53)
 (.region false [
 oQ 59 (.mov (.t 0)),
 ⟨some 60, .call false (.c (.fn 326 [] [])) [.t 59], none⟩,
 oQ 0 (.mov (.t 60))])
 (.seq
 (.region false [
 oQ 62 (.mov (.t 1)),
 oQ 63 (.iaddr 1 (.t 62) (.c (.int .i64 0))),
 oQ 64 (.load false 1 (.t 63)),
 oQ 65 (.bin 0 .and (.t 64) (.c (.int .u32 1))),
 oQ 66 (.bin 0 .eql (.t 65) (.c (.int .u32 0))),
 oQ 61 (.mov (.t 66))])
 (.cond (.t 61)
 (.region false [
 oQ 67 (.mov (.t 1)),
 ⟨some 68, .call false (.c (.fn 326 [] [])) [.t 67], none⟩,
 oQ 1 (.mov (.t 68))])
 (.seq
 (.region false [
 oQ 70 (.mov (.t 0)),
 oQ 71 (.mov (.t 1)),
 ⟨some 72, .call false (.c (.fn 274 [] [])) [.t 70, .t 71], none⟩,
 oQ 73 (.bin 0 .geq (.t 72) (.c (.int .i64 0))),
 oQ 69 (.mov (.t 73))])
 (.cond (.t 69)
 (.region false [
 oQ 75 (.mov (.t 0)),
 oQ 76 (.mov (.t 1)),
 ⟨some 77, .call false (.c (.fn 306 [] [])) [.t 75, .t 76], none⟩,
 oQ 74 (.mov (.t 77)),
 oQ 78 (.extract (.t 74) 0),
 oQ 79 (.extract (.t 74) 1),
 oQ 0 (.mov (.t 78))])
 (.region false [
 oQ 48 (.mov (.t 1)),
 oQ 49 (.mov (.t 0)),
 ⟨some 50, .call false (.c (.fn 306 [] [])) [.t 48, .t 49], none⟩,
 oQ 47 (.mov (.t 50)),
 oQ 51 (.extract (.t 47) 0),
 oQ 52 (.extract (.t 47) 1),
 oQ 1 (.mov (.t 51))]))))))))))))
 (.seq
 (.region false [
 oQ 80 (.mov (.t 0)),
 oQ 81 (.mov (.t 1)),
 ⟨some 82, .call false (.c (.fn 218 [] [])) [.t 80, .t 81], none⟩,
 oQ 6 (.mov (.t 82))])
 (.seq
 (.block 5
 (.loop
 (.seq
 (.seq
 (.region false [
 oQ 83 (.mov (.t 5)),
 oQ 84 (.bin 0 .gtr (.t 83) (.c (.int .i64 0)))])
 (.cond (.t 84)
 .skip
 (.exit 5)))
 (.seq
 (.block 6
 (.region false [
 oQ 87 (.mov (.t 6)),
 ⟨some 88, .call false (.c (.fn 304 [] [])) [.t 87, .c (.int .u32 0)], none⟩,
 oQ 6 (.mov (.t 88))]))
 (.region false [
 oQ 85 (.mov (.t 5)),
 oQ 86 (.bin 0 .sub (.t 85) (.c (.int .i64 1))),
 oQ 5 (.mov (.t 86))])))))
 (.seq
 (.region false [
 oQ 89 (.mov (.t 6)),
 oQ 4 (.mov (.t 89))])
 .ret))))))))
def c535 : CF := ⟨90, 2, [.mov (.t 4)], b535⟩
def b513 : C :=
 (.seq
 (.region false [
 oQ 2 (.mov (.c (.sl true [] 0)))])
 (.seq
 (.region false [
 oQ 3 (.mov (.c (.sl true [] 0)))])
 (.seq
 (.seq
 (.region false [
 oQ 4 (.mov (.c (.int .i64 0)))])
 (.block 0
 (.loop
 (.seq
 (.seq
 (.region false [
 oQ 5 (.mov (.t 4)),
 oQ 6 (.mov (.t 0)),
 oQ 7 (.len false (.t 6)),
 oQ 8 (.bin 0 .lss (.t 5) (.t 7))])
 (.cond (.t 8)
 .skip
 (.exit 0)))
 (.seq
 (.block 1
 (.region false [
 oQ 11 (.mov (.t 3)),
 oQ 12 (.mov (.t 0)),
 oQ 13 (.mov (.t 4)),
 oQ 14 (.iaddr 1 (.t 12) (.t 13)),
 oQ 15 (.load false 1 (.t 14)),
 ⟨some 16, .call false (.c (.fn 302 [] [])) [.t 11, .t 15], none⟩,
 oQ 3 (.mov (.t 16))]))
 (.region false [
 oQ 9 (.mov (.t 4)),
 oQ 10 (.bin 0 .add (.t 9) (.c (.int .i64 1))),
 oQ 4 (.mov (.t 10))]))))))
 (.seq
 (.region false [
 oQ 17 (.mov (.t 3)),
 oQ 2 (.mov (.t 17))])
 .ret))))
def c513 : CF := ⟨18, 1, [.mov (.t 2)], b513⟩
theorem s535 : stripF Go.Proofs.Tryz.prog 302 = some c535 := by kernel_rfl
theorem s513 : stripF Go.Proofs.Tryz.prog 270 = some c513 := by kernel_rfl

theorem gcd_two (x y : Nat) : Nat.gcd (2 * x) (2 * y) = 2 * Nat.gcd x y := Nat.gcd_mul_left 2 x y
theorem gcd_odd {x y : Nat} (h : y % 2 = 1) : Nat.gcd (2 * x) y = Nat.gcd x y := by
  have : Nat.Coprime 2 y := by
    rw [Nat.coprime_iff_gcd_eq_one, Nat.gcd_rec, h]; rfl
  exact Nat.Coprime.gcd_mul_left_cancel x this
theorem gcd_sub {x y : Nat} (h : y ≤ x) : Nat.gcd (x - y) y = Nat.gcd x y := by
  have h1 : x = (x - y) + y := by omega
  have := Nat.gcd_add_self_left (m := y) (n := x - y)
  rw [← h1] at this
  exact this.symm
theorem lim_head {x : Nat} (h : x ≠ 0) : (nl (lim x))[0]? = some (limb (x % 4294967296)) := by rw [lim_pos h]; rfl
theorem pow_bits {G N t : Nat} (h1 : 2 ^ t ≤ G) (h2 : G < 4294967296 ^ N) : t < 32 * N := by
  rw [show (4294967296 : Nat) = 2 ^ 32 by decide, ← Nat.pow_mul] at h2
  exact (Nat.pow_lt_pow_iff_right (by decide)).1 (Nat.lt_of_le_of_lt h1 h2)

def sub535 : C := match b535 with
  | .seq _ (.seq _ (.seq _ (.seq _ r))) => r
  | c => c

set_option maxHeartbeats 4000000 in
theorem rest535 (G N x y t : Nat) (ex ey : Bool) (e : Env) (H : Heap) (hN : N ≤ 800000) (hG : G < 4294967296 ^ N) (hx : x < 4294967296 ^ N) (hy : y < 4294967296 ^ N) (ht : t ≤ 32 * N) (hgcd : 2 ^ t * Nat.gcd x y = G)
    (hodd : x = 0 ∨ y = 0 ∨ x % 2 = 1 ∨ y % 2 = 1) (e0 : e 0 = .sl ex (nl (lim x)) (lim x).length) (e1 : e 1 = .sl ey (nl (lim y)) (lim y).length) (e5 : e 5 = .int .i64 (t : Nat)) :
    go Go.Proofs.Tryz.prog sub535 e H [] (Done [.mov (.t 4)] fun v H => Gives H v (nf (lim G))) := by
  have ll : ∀ {x : Nat}, x < 4294967296 ^ N → (lim x).length ≤ 800000 := fun h => Nat.le_trans (lim_len h) hN
  simp only [sub535,b535, oQ]
  simp -implicitDefEqProofs (disch := omega) only [↓ZD,ZP,cnd_t,cnd_f,↓reduceIte,Env.put,stepO,lenV,binV,binInt,unV,loadV,sliceV,boundOf,convV,slstrV,if_pos,if_neg,Int.reduceToNat,Nat.reducePow,V.cells,V.isCell,V.boxable,Nat.reduceEqDiff,reduceCtorEq,reduceIte,ite_self,enterEnv,e0,e1,e5]
  refine go_loop (fun m e H => ∃ x y ex ey, m = x + y ∧ 2 ^ t * Nat.gcd x y = G ∧ x < 4294967296 ^ N ∧ y < 4294967296 ^ N ∧ (x = 0 ∨ y = 0 ∨ x % 2 = 1 ∨ y % 2 = 1) ∧ e 0 = .sl ex (nl (lim x)) (lim x).length ∧ e 1 = .sl ey (nl (lim y)) (lim y).length ∧ e 5 = .int .i64 (t : Nat)) (x + y)
    ⟨x, y, ex, ey, rfl, hgcd, hx, hy, hodd, e0, e1, e5⟩ ?_
  clear hgcd hx hy hodd e0 e1 e5
  rintro m e H ⟨x, y, ex, ey, rfl, hgcd, hx, hy, hodd, e0, e1, e5⟩
  have hxl := ll hx
  have hyl := ll hy
  have px : x ≠ 0 → 0 < (lim x).length := fun h => Nat.pos_of_ne_zero ((not_congr lim_nil_len).2 h)
  have py : y ≠ 0 → 0 < (lim y).length := fun h => Nat.pos_of_ne_zero ((not_congr lim_nil_len).2 h)
  by_cases hgo : x ≠ 0 ∧ y ≠ 0
  · obtain ⟨hx0, hy0⟩ := hgo
    have px := px hx0
    have py := py hy0
    have hax := lim_head hx0
    have hay := lim_head hy0
    have ax : IntKind.u32.wrap ((x % 4294967296 % 2 : Nat) : Int) = ((x % 2 : Nat) : Int) := by rw [w32]; omega
    have ay : IntKind.u32.wrap ((y % 4294967296 % 2 : Nat) : Int) = ((y % 2 : Nat) : Int) := by rw [w32]; omega
    have bx := and1_32 (x % 4294967296) (Nat.mod_lt _ (by decide))
    have by' := and1_32 (y % 4294967296) (Nat.mod_lt _ (by decide))
    have g1 := good552 ex (lim x) (lim_lm _) (by omega)
    have g2 := good552 ey (lim y) (lim_lm _) (by omega)
    have g3 := good522 ex ey (lim x) (lim y) (lim_lm _) (lim_lm _) (by omega) (by omega)
    have g4 := good539 ex ey (lim x) (lim y) (lim_lm _) (lim_lm _) (by omega) (by omega)
    have g5 := good539 ey ex (lim y) (lim x) (lim_lm _) (lim_lm _) (by omega) (by omega)
    rw [lim_val] at g1 g2
    rw [lim_val, lim_val] at g3 g4 g5
    rcases Nat.mod_two_eq_zero_or_one x with hx2 | hx2
    · have hy2 : y % 2 = 1 := by omega
      simp -implicitDefEqProofs (disch := omega) only [↓ZD,ZP,cnd_t,cnd_f,↓reduceIte,Env.put,stepO,lenV,binV,binInt,unV,loadV,sliceV,boundOf,convV,slstrV,if_pos,if_neg,Int.reduceToNat,Nat.reducePow,V.cells,V.isCell,V.boxable,Nat.reduceEqDiff,reduceCtorEq,reduceIte,ite_self,enterEnv,e0,e1,e5,hax,hay,limb,bx,by',ax,ay,hx2,hy2]
      refine calP_ro (by simp [roL, V.ro, nl_ro]) g1 (nf_ro _) ?_
      simp -implicitDefEqProofs (disch := omega) only [↓ZD,ZP,cnd_t,cnd_f,↓reduceIte,Env.put,stepO,lenV,binV,binInt,unV,loadV,sliceV,boundOf,convV,slstrV,if_pos,if_neg,Int.reduceToNat,Nat.reducePow,V.cells,V.isCell,V.boxable,Nat.reduceEqDiff,reduceCtorEq,reduceIte,ite_self,enterEnv,e0,e1,e5]
      refine ⟨_, ?_, x / 2, y, false, ey, rfl, ?_, by omega, hy, by omega, rfl, rfl⟩
      · omega
      · rw [← hgcd, ← gcd_odd hy2]
        congr 2; omega
    · rcases Nat.mod_two_eq_zero_or_one y with hy2 | hy2
      · simp -implicitDefEqProofs (disch := omega) only [↓ZD,ZP,cnd_t,cnd_f,↓reduceIte,Env.put,stepO,lenV,binV,binInt,unV,loadV,sliceV,boundOf,convV,slstrV,if_pos,if_neg,Int.reduceToNat,Nat.reducePow,V.cells,V.isCell,V.boxable,Nat.reduceEqDiff,reduceCtorEq,reduceIte,ite_self,enterEnv,e0,e1,e5,hax,hay,limb,bx,by',ax,ay,hx2,hy2]
        refine calP_ro (by simp [roL, V.ro, nl_ro]) g2 (nf_ro _) ?_
        simp -implicitDefEqProofs (disch := omega) only [↓ZD,ZP,cnd_t,cnd_f,↓reduceIte,Env.put,stepO,lenV,binV,binInt,unV,loadV,sliceV,boundOf,convV,slstrV,if_pos,if_neg,Int.reduceToNat,Nat.reducePow,V.cells,V.isCell,V.boxable,Nat.reduceEqDiff,reduceCtorEq,reduceIte,ite_self,enterEnv,e0,e1,e5]
        refine ⟨_, ?_, x, y / 2, ex, false, rfl, ?_, hx, by omega, by omega, rfl, rfl⟩
        · omega
        · rw [← hgcd, Nat.gcd_comm, Nat.gcd_comm x, ← gcd_odd hx2]
          congr 2; omega
      · rcases Nat.lt_or_ge x y with hlt | hge
        · have hcmp : decide (cmpN x y ≥ 0) = false := by rw [cmpN, if_pos hlt]; decide
          rw [minR, if_neg (by omega)] at g5
          simp -implicitDefEqProofs (disch := omega) only [↓ZD,ZP,cnd_t,cnd_f,↓reduceIte,Env.put,stepO,lenV,binV,binInt,unV,loadV,sliceV,boundOf,convV,slstrV,if_pos,if_neg,Int.reduceToNat,Nat.reducePow,V.cells,V.isCell,V.boxable,Nat.reduceEqDiff,reduceCtorEq,reduceIte,ite_self,enterEnv,e0,e1,e5,hax,hay,limb,bx,by',ax,ay,hx2,hy2]
          refine calP_ro (by simp [roL, V.ro, nl_ro]) g3 rfl ?_
          simp -implicitDefEqProofs (disch := omega) only [↓ZD,ZP,cnd_t,cnd_f,↓reduceIte,Env.put,stepO,lenV,binV,binInt,unV,loadV,sliceV,boundOf,convV,slstrV,if_pos,if_neg,Int.reduceToNat,Nat.reducePow,V.cells,V.isCell,V.boxable,Nat.reduceEqDiff,reduceCtorEq,reduceIte,ite_self,enterEnv,e0,e1,e5,hcmp]
          refine calP_ro (by simp [roL, V.ro, nl_ro]) g5 (by simp [roL, V.ro, nf_ro]) ?_
          simp -implicitDefEqProofs (disch := omega) only [↓ZD,ZP,cnd_t,cnd_f,↓reduceIte,Env.put,stepO,lenV,binV,binInt,unV,loadV,sliceV,boundOf,convV,slstrV,if_pos,if_neg,Int.reduceToNat,Nat.reducePow,V.cells,V.isCell,V.boxable,Nat.reduceEqDiff,reduceCtorEq,reduceIte,ite_self,enterEnv,e0,e1,e5]
          refine ⟨_, ?_, x, y - x, ex, false, rfl, ?_, hx, by omega, by omega, rfl, rfl⟩
          · omega
          · rw [← hgcd, Nat.gcd_comm, gcd_sub (by omega), Nat.gcd_comm]
        · have hcmp : decide (cmpN x y ≥ 0) = true := by rw [cmpN, if_neg (by omega)]; split <;> decide
          rw [minR, if_neg (by omega)] at g4
          simp -implicitDefEqProofs (disch := omega) only [↓ZD,ZP,cnd_t,cnd_f,↓reduceIte,Env.put,stepO,lenV,binV,binInt,unV,loadV,sliceV,boundOf,convV,slstrV,if_pos,if_neg,Int.reduceToNat,Nat.reducePow,V.cells,V.isCell,V.boxable,Nat.reduceEqDiff,reduceCtorEq,reduceIte,ite_self,enterEnv,e0,e1,e5,hax,hay,limb,bx,by',ax,ay,hx2,hy2]
          refine calP_ro (by simp [roL, V.ro, nl_ro]) g3 rfl ?_
          simp -implicitDefEqProofs (disch := omega) only [↓ZD,ZP,cnd_t,cnd_f,↓reduceIte,Env.put,stepO,lenV,binV,binInt,unV,loadV,sliceV,boundOf,convV,slstrV,if_pos,if_neg,Int.reduceToNat,Nat.reducePow,V.cells,V.isCell,V.boxable,Nat.reduceEqDiff,reduceCtorEq,reduceIte,ite_self,enterEnv,e0,e1,e5,hcmp]
          refine calP_ro (by simp [roL, V.ro, nl_ro]) g4 (by simp [roL, V.ro, nf_ro]) ?_
          simp -implicitDefEqProofs (disch := omega) only [↓ZD,ZP,cnd_t,cnd_f,↓reduceIte,Env.put,stepO,lenV,binV,binInt,unV,loadV,sliceV,boundOf,convV,slstrV,if_pos,if_neg,Int.reduceToNat,Nat.reducePow,V.cells,V.isCell,V.boxable,Nat.reduceEqDiff,reduceCtorEq,reduceIte,ite_self,enterEnv,e0,e1,e5]
          refine ⟨_, ?_, x - y, y, false, ey, rfl, ?_, by omega, hy, by omega, rfl, rfl⟩
          · omega
          · rw [← hgcd, gcd_sub hge]
  · have hxy : Nat.gcd x y = x + y := by
      rcases Nat.eq_zero_or_pos x with h | h
      · rw [h, Nat.gcd_zero_left]; omega
      · have : y = 0 := by omega
        rw [this, Nat.gcd_zero_right]; omega
    rw [hxy] at hgcd
    have g1 := good480 ex ey (lim x) (lim y) (lim_lm _) (lim_lm _) (by omega) (by omega)
    rw [lim_val, lim_val] at g1
    have hcase : x = 0 ∨ (x ≠ 0 ∧ y = 0) := by omega
    clear px py
    rcases hcase with h1 | ⟨h1, h2⟩
    · subst h1
      rw [lim_zero] at g1
      rw [Nat.zero_add] at hgcd g1
      simp -implicitDefEqProofs (disch := omega) only [↓ZD,ZP,cnd_t,cnd_f,↓reduceIte,Env.put,stepO,lenV,binV,binInt,unV,loadV,sliceV,boundOf,convV,slstrV,if_pos,if_neg,Int.reduceToNat,Nat.reducePow,V.cells,V.isCell,V.boxable,Nat.reduceEqDiff,reduceCtorEq,reduceIte,ite_self,enterEnv,e0,e1,e5,lim_zero,nl_nil]
      refine calP_ro (by simp [roL, V.ro, nl_ro]) g1 (nf_ro _) ?_
      simp -implicitDefEqProofs (disch := omega) only [↓ZD,ZP,cnd_t,cnd_f,↓reduceIte,Env.put,stepO,lenV,binV,binInt,unV,loadV,sliceV,boundOf,convV,slstrV,if_pos,if_neg,Int.reduceToNat,Nat.reducePow,V.cells,V.isCell,V.boxable,Nat.reduceEqDiff,reduceCtorEq,reduceIte,ite_self,enterEnv,e0,e1,e5,nf]
      refine go_loop (fun m e H => ∃ g eg, 2 ^ m * g = G ∧ m ≤ t ∧ e 5 = .int .i64 (m : Nat) ∧ e 6 = nsl eg (lim g)) t ⟨y, false, hgcd, Nat.le_refl _, ?_, ?_⟩ ?_
      · simp [Env.set, e5]
      · simp [Env.set]
      clear g1 e0 e1 e5
      rintro m e H ⟨g, eg, hg, hm, e5, e6⟩
      cases m with
      | zero =>
        rw [Nat.pow_zero, Nat.one_mul] at hg
        simp -implicitDefEqProofs (disch := omega) only [↓ZD,ZP,cnd_t,cnd_f,↓reduceIte,Env.put,stepO,lenV,binV,binInt,unV,loadV,sliceV,boundOf,convV,slstrV,if_pos,if_neg,Int.reduceToNat,Nat.reducePow,V.cells,V.isCell,V.boxable,Nat.reduceEqDiff,reduceCtorEq,reduceIte,ite_self,enterEnv,e5,e6]
        exact gives_eq (nsl_ro _ _) (by rw [hg]; rfl)
      | succ m =>
        have hgl : (lim g).length ≤ 800000 := ll (Nat.lt_of_le_of_lt (by rw [← hg]; exact Nat.le_mul_of_pos_left _ (Nat.two_pow_pos _)) hG)
        have g2 := good537 eg (lim g) 0 (lim_lm _) (by omega) (by decide)
        rw [lim_val, Nat.add_zero] at g2
        have hsub : ((m + 1 : Nat) : Int) - 1 = ((m : Nat) : Int) := by omega
        simp -implicitDefEqProofs (disch := omega) only [↓ZD,ZP,cnd_t,cnd_f,↓reduceIte,Env.put,stepO,lenV,binV,binInt,unV,loadV,sliceV,boundOf,convV,slstrV,if_pos,if_neg,Int.reduceToNat,Nat.reducePow,V.cells,V.isCell,V.boxable,Nat.reduceEqDiff,reduceCtorEq,reduceIte,ite_self,enterEnv,e5,e6]
        refine calP_ro (by simp [roL, V.ro, nsl_ro]) g2 (nf_ro _) ?_
        simp -implicitDefEqProofs (disch := omega) only [↓ZD,ZP,cnd_t,cnd_f,↓reduceIte,Env.put,stepO,lenV,binV,binInt,unV,loadV,sliceV,boundOf,convV,slstrV,if_pos,if_neg,Int.reduceToNat,Nat.reducePow,V.cells,V.isCell,V.boxable,Nat.reduceEqDiff,reduceCtorEq,reduceIte,ite_self,enterEnv,e5,e6,hsub,nf]
        exact ⟨m, by omega, 2 * g, false, by rw [← hg, Nat.pow_succ, Nat.mul_assoc], by omega, rfl, rfl⟩
    · subst h2
      have px : 0 < (lim x).length := Nat.pos_of_ne_zero ((not_congr lim_nil_len).2 h1)
      rw [lim_zero] at g1
      rw [Nat.add_zero] at hgcd g1
      simp -implicitDefEqProofs (disch := omega) only [↓ZD,ZP,cnd_t,cnd_f,↓reduceIte,Env.put,stepO,lenV,binV,binInt,unV,loadV,sliceV,boundOf,convV,slstrV,if_pos,if_neg,Int.reduceToNat,Nat.reducePow,V.cells,V.isCell,V.boxable,Nat.reduceEqDiff,reduceCtorEq,reduceIte,ite_self,enterEnv,e0,e1,e5,lim_zero,nl_nil]
      refine calP_ro (by simp [roL, V.ro, nl_ro]) g1 (nf_ro _) ?_
      simp -implicitDefEqProofs (disch := omega) only [↓ZD,ZP,cnd_t,cnd_f,↓reduceIte,Env.put,stepO,lenV,binV,binInt,unV,loadV,sliceV,boundOf,convV,slstrV,if_pos,if_neg,Int.reduceToNat,Nat.reducePow,V.cells,V.isCell,V.boxable,Nat.reduceEqDiff,reduceCtorEq,reduceIte,ite_self,enterEnv,e0,e1,e5,nf]
      refine go_loop (fun m e H => ∃ g eg, 2 ^ m * g = G ∧ m ≤ t ∧ e 5 = .int .i64 (m : Nat) ∧ e 6 = nsl eg (lim g)) t ⟨x, false, hgcd, Nat.le_refl _, ?_, ?_⟩ ?_
      · simp [Env.set, e5]
      · simp [Env.set]
      clear g1 e0 e1 e5
      rintro m e H ⟨g, eg, hg, hm, e5, e6⟩
      cases m with
      | zero =>
        rw [Nat.pow_zero, Nat.one_mul] at hg
        simp -implicitDefEqProofs (disch := omega) only [↓ZD,ZP,cnd_t,cnd_f,↓reduceIte,Env.put,stepO,lenV,binV,binInt,unV,loadV,sliceV,boundOf,convV,slstrV,if_pos,if_neg,Int.reduceToNat,Nat.reducePow,V.cells,V.isCell,V.boxable,Nat.reduceEqDiff,reduceCtorEq,reduceIte,ite_self,enterEnv,e5,e6]
        exact gives_eq (nsl_ro _ _) (by rw [hg]; rfl)
      | succ m =>
        have hgl : (lim g).length ≤ 800000 := ll (Nat.lt_of_le_of_lt (by rw [← hg]; exact Nat.le_mul_of_pos_left _ (Nat.two_pow_pos _)) hG)
        have g2 := good537 eg (lim g) 0 (lim_lm _) (by omega) (by decide)
        rw [lim_val, Nat.add_zero] at g2
        have hsub : ((m + 1 : Nat) : Int) - 1 = ((m : Nat) : Int) := by omega
        simp -implicitDefEqProofs (disch := omega) only [↓ZD,ZP,cnd_t,cnd_f,↓reduceIte,Env.put,stepO,lenV,binV,binInt,unV,loadV,sliceV,boundOf,convV,slstrV,if_pos,if_neg,Int.reduceToNat,Nat.reducePow,V.cells,V.isCell,V.boxable,Nat.reduceEqDiff,reduceCtorEq,reduceIte,ite_self,enterEnv,e5,e6]
        refine calP_ro (by simp [roL, V.ro, nsl_ro]) g2 (nf_ro _) ?_
        simp -implicitDefEqProofs (disch := omega) only [↓ZD,ZP,cnd_t,cnd_f,↓reduceIte,Env.put,stepO,lenV,binV,binInt,unV,loadV,sliceV,boundOf,convV,slstrV,if_pos,if_neg,Int.reduceToNat,Nat.reducePow,V.cells,V.isCell,V.boxable,Nat.reduceEqDiff,reduceCtorEq,reduceIte,ite_self,enterEnv,e5,e6,hsub,nf]
        exact ⟨m, by omega, 2 * g, false, by rw [← hg, Nat.pow_succ, Nat.mul_assoc], by omega, rfl, rfl⟩

set_option maxHeartbeats 4000000 in
theorem good535 (exa exb : Bool) (a b : List Nat) (ha : Lm a) (hb : Lm b) (hla : a.length ≤ 800000) (hlb : b.length ≤ 800000) : Good Go.Proofs.Tryz.prog 302 [nsl exa a, nsl exb b] (nf (lim (Nat.gcd (val a) (val b)))) := by
  refine good_go mix s535 (Nat.le_of_ble_eq_true rfl) fun e he => ?_
  have e0 : e 0 = nsl exa a := he 0
  have e1 : e 1 = nsl exb b := he 1
  clear he
  simp only [c535,b535, oQ]
  simp -implicitDefEqProofs (disch := omega) only [↓ZD,ZP,cnd_t,cnd_f,↓reduceIte,Env.put,stepO,lenV,binV,binInt,unV,loadV,sliceV,boundOf,convV,slstrV,if_pos,if_neg,Int.reduceToNat,Nat.reducePow,V.cells,V.isCell,V.boxable,Nat.reduceEqDiff,reduceCtorEq,reduceIte,ite_self,enterEnv,e0,e1]
  refine calP_ro (nl_ro_1 _ _) (lim512 exa a ha (by omega)) (nf_ro _) ?_
  simp -implicitDefEqProofs (disch := omega) only [↓ZD,ZP,cnd_t,cnd_f,↓reduceIte,Env.put,stepO,lenV,binV,binInt,unV,loadV,sliceV,boundOf,convV,slstrV,if_pos,if_neg,Int.reduceToNat,Nat.reducePow,V.cells,V.isCell,V.boxable,Nat.reduceEqDiff,reduceCtorEq,reduceIte,ite_self,enterEnv,e0,e1]
  refine calP_ro (nl_ro_1 _ _) (lim512 exb b hb (by omega)) (nf_ro _) ?_
  have hA := val_lt ha
  have hB := val_lt hb
  have hK : ∃ N : Nat, N ≤ 800000 ∧ val a < 4294967296 ^ N ∧ val b < 4294967296 ^ N := by
    refine ⟨max a.length b.length, by omega, ?_, ?_⟩
    · exact Nat.lt_of_lt_of_le hA (Nat.pow_le_pow_right (by decide) (by omega))
    · exact Nat.lt_of_lt_of_le hB (Nat.pow_le_pow_right (by decide) (by omega))
  obtain ⟨N, hN, hAN, hBN⟩ := hK
  clear hA hB
  generalize val a = A at *
  generalize val b = B at *
  have hG : Nat.gcd A B < 4294967296 ^ N := by
    rcases Nat.eq_zero_or_pos A with h | h
    · rw [h, Nat.gcd_zero_left]; exact hBN
    · exact Nat.lt_of_le_of_lt (Nat.gcd_le_left B h) hAN
  have ll : ∀ {x : Nat}, x < 4294967296 ^ N → (lim x).length ≤ 800000 := fun h => Nat.le_trans (lim_len h) hN
  simp -implicitDefEqProofs (disch := omega) only [↓ZD,ZP,cnd_t,cnd_f,↓reduceIte,Env.put,stepO,lenV,binV,binInt,unV,loadV,sliceV,boundOf,convV,slstrV,if_pos,if_neg,Int.reduceToNat,Nat.reducePow,V.cells,V.isCell,V.boxable,Nat.reduceEqDiff,reduceCtorEq,reduceIte,ite_self,enterEnv,e0,e1]
  refine go_loop (fun m e H => ∃ x y t ex ey, m = x + y ∧ t ≤ 32 * N ∧ 2 ^ t * Nat.gcd x y = Nat.gcd A B ∧ x ≤ A ∧ y ≤ B ∧ e 0 = .sl ex (nl (lim x)) (lim x).length ∧ e 1 = .sl ey (nl (lim y)) (lim y).length ∧ e 5 = .int .i64 (t : Nat)) (A + B)
    ⟨A, B, 0, false, false, rfl, Nat.zero_le _, by simp, Nat.le_refl _, Nat.le_refl _, ?_, ?_, ?_⟩ ?_
  · simp [Env.set, nf, nsl]
  · simp [Env.set, nf, nsl]
  · simp [Env.set]
  clear e0 e1
  rintro m e H ⟨x, y, t, ex, ey, rfl, ht0, hgcd, hx, hy, e0, e1, e5⟩
  have hxl := ll (Nat.lt_of_le_of_lt hx hAN)
  have hyl := ll (Nat.lt_of_le_of_lt hy hBN)
  have px : x ≠ 0 → 0 < (lim x).length := fun h => Nat.pos_of_ne_zero ((not_congr lim_nil_len).2 h)
  have py : y ≠ 0 → 0 < (lim y).length := fun h => Nat.pos_of_ne_zero ((not_congr lim_nil_len).2 h)
  have ax : IntKind.u32.wrap ((x % 4294967296 % 2 : Nat) : Int) = ((x % 2 : Nat) : Int) := by rw [w32]; omega
  have ay : IntKind.u32.wrap ((y % 4294967296 % 2 : Nat) : Int) = ((y % 2 : Nat) : Int) := by rw [w32]; omega
  have bx := and1_32 (x % 4294967296) (Nat.mod_lt _ (by decide))
  have by' := and1_32 (y % 4294967296) (Nat.mod_lt _ (by decide))
  by_cases hgo : x ≠ 0 ∧ y ≠ 0 ∧ x % 2 = 0 ∧ y % 2 = 0
  · obtain ⟨hx0, hy0, hx2, hy2⟩ := hgo
    have px := px hx0
    have py := py hy0
    have hax := lim_head hx0
    have hay := lim_head hy0
    have g1 := good552 ex (lim x) (lim_lm _) (by omega)
    have g2 := good552 ey (lim y) (lim_lm _) (by omega)
    rw [lim_val] at g1 g2
    have ht : t < 32 * N := by
      refine pow_bits (G := Nat.gcd A B) ?_ hG
      rw [← hgcd]
      exact Nat.le_mul_of_pos_right _ (Nat.gcd_pos_of_pos_left _ (by omega))
    simp -implicitDefEqProofs (disch := omega) only [↓ZD,ZP,cnd_t,cnd_f,↓reduceIte,Env.put,stepO,lenV,binV,binInt,unV,loadV,sliceV,boundOf,convV,slstrV,if_pos,if_neg,Int.reduceToNat,Nat.reducePow,V.cells,V.isCell,V.boxable,Nat.reduceEqDiff,reduceCtorEq,reduceIte,ite_self,enterEnv,e0,e1,e5,hax,hay,limb,bx,by',ax,ay,hx2,hy2]
    refine calP_ro (by simp [roL, V.ro, nl_ro]) g1 (nf_ro _) ?_
    simp -implicitDefEqProofs (disch := omega) only [↓ZD,ZP,cnd_t,cnd_f,↓reduceIte,Env.put,stepO,lenV,binV,binInt,unV,loadV,sliceV,boundOf,convV,slstrV,if_pos,if_neg,Int.reduceToNat,Nat.reducePow,V.cells,V.isCell,V.boxable,Nat.reduceEqDiff,reduceCtorEq,reduceIte,ite_self,enterEnv,e0,e1,e5]
    refine calP_ro (by simp [roL, V.ro, nl_ro]) g2 (nf_ro _) ?_
    simp -implicitDefEqProofs (disch := omega) only [↓ZD,ZP,cnd_t,cnd_f,↓reduceIte,Env.put,stepO,lenV,binV,binInt,unV,loadV,sliceV,boundOf,convV,slstrV,if_pos,if_neg,Int.reduceToNat,Nat.reducePow,V.cells,V.isCell,V.boxable,Nat.reduceEqDiff,reduceCtorEq,reduceIte,ite_self,enterEnv,e0,e1,e5]
    refine ⟨_, ?_, x / 2, y / 2, t + 1, false, false, rfl, by omega, ?_, by omega, by omega, rfl, rfl, rfl⟩
    · omega
    · rw [← hgcd, Nat.pow_succ, Nat.mul_assoc, ← gcd_two]
      congr 2 <;> omega
  · have hcase : x = 0 ∨ (x ≠ 0 ∧ y = 0) ∨ (x ≠ 0 ∧ y ≠ 0 ∧ x % 2 = 1) ∨ (x ≠ 0 ∧ y ≠ 0 ∧ x % 2 = 0 ∧ y % 2 = 1) := by omega
    have hodd : x = 0 ∨ y = 0 ∨ x % 2 = 1 ∨ y % 2 = 1 := by omega
    have hxN := Nat.lt_of_le_of_lt hx hAN
    have hyN := Nat.lt_of_le_of_lt hy hBN
    have k := fun (e' : Env) (H' : Heap) => rest535 (Nat.gcd A B) N x y t ex ey e' H' hN hG hxN hyN ht0 hgcd hodd
    simp only [sub535,b535, oQ] at k
    simp -implicitDefEqProofs (disch := omega) only [↓ZD,ZP,cnd_t,cnd_f,↓reduceIte,Env.put,stepO,lenV,binV,binInt,unV,loadV,sliceV,boundOf,convV,slstrV,if_pos,if_neg,Int.reduceToNat,Nat.reducePow,V.cells,V.isCell,V.boxable,Nat.reduceEqDiff,reduceCtorEq,reduceIte,ite_self,enterEnv] at k
    rcases hcase with h1 | ⟨h1, h2⟩ | ⟨h1, h2, h3⟩ | ⟨h1, h2, h3, h4⟩
    · have hz : (lim x).length = 0 := lim_nil_len.2 h1
      simp -implicitDefEqProofs (disch := omega) only [↓ZD,ZP,cnd_t,cnd_f,↓reduceIte,Env.put,stepO,lenV,binV,binInt,unV,loadV,sliceV,boundOf,convV,slstrV,if_pos,if_neg,Int.reduceToNat,Nat.reducePow,V.cells,V.isCell,V.boxable,Nat.reduceEqDiff,reduceCtorEq,reduceIte,ite_self,enterEnv,e0,e1,e5,hz]
      refine k _ _ ?_ ?_ ?_ <;> simp [Env.set, e0, e1, e5]
    · have px := px h1
      have hz : (lim y).length = 0 := lim_nil_len.2 h2
      simp -implicitDefEqProofs (disch := omega) only [↓ZD,ZP,cnd_t,cnd_f,↓reduceIte,Env.put,stepO,lenV,binV,binInt,unV,loadV,sliceV,boundOf,convV,slstrV,if_pos,if_neg,Int.reduceToNat,Nat.reducePow,V.cells,V.isCell,V.boxable,Nat.reduceEqDiff,reduceCtorEq,reduceIte,ite_self,enterEnv,e0,e1,e5,hz]
      refine k _ _ ?_ ?_ ?_ <;> simp [Env.set, e0, e1, e5]
    · have px := px h1
      have py := py h2
      have hax := lim_head h1
      simp -implicitDefEqProofs (disch := omega) only [↓ZD,ZP,cnd_t,cnd_f,↓reduceIte,Env.put,stepO,lenV,binV,binInt,unV,loadV,sliceV,boundOf,convV,slstrV,if_pos,if_neg,Int.reduceToNat,Nat.reducePow,V.cells,V.isCell,V.boxable,Nat.reduceEqDiff,reduceCtorEq,reduceIte,ite_self,enterEnv,e0,e1,e5,hax,limb,bx,ax,h3]
      refine k _ _ ?_ ?_ ?_ <;> simp [Env.set, e0, e1, e5]
    · have px := px h1
      have py := py h2
      have hax := lim_head h1
      have hay := lim_head h2
      simp -implicitDefEqProofs (disch := omega) only [↓ZD,ZP,cnd_t,cnd_f,↓reduceIte,Env.put,stepO,lenV,binV,binInt,unV,loadV,sliceV,boundOf,convV,slstrV,if_pos,if_neg,Int.reduceToNat,Nat.reducePow,V.cells,V.isCell,V.boxable,Nat.reduceEqDiff,reduceCtorEq,reduceIte,ite_self,enterEnv,e0,e1,e5,hax,hay,limb,bx,by',ax,ay,h3,h4]
      refine k _ _ ?_ ?_ ?_ <;> simp [Env.set, e0, e1, e5]

theorem good513 (exl : Bool) (L : List (Bool × List Nat)) (hL : ∀ p ∈ L, Lm p.2 ∧ p.2.length ≤ 800000) (hn : L.length ≤ 1100000) :
    Good Go.Proofs.Tryz.prog 270 [.sl exl (nls L) L.length] (nf (lim (gcdL 0 L))) := by
  refine good_go mix s513 (Nat.le_of_ble_eq_true rfl) fun e he => ?_
  have e0 : e 0 = .sl exl (nls L) L.length := he 0
  clear he
  simp only [c513,b513, oQ]
  simp -implicitDefEqProofs (disch := omega) only [↓ZD,ZP,cnd_t,cnd_f,↓reduceIte,Env.put,stepO,lenV,binV,binInt,unV,loadV,sliceV,boundOf,convV,slstrV,if_pos,if_neg,Int.reduceToNat,Nat.reducePow,V.cells,V.isCell,V.boxable,Nat.reduceEqDiff,reduceCtorEq,reduceIte,ite_self,enterEnv,e0]
  refine go_loop (fun n e H => ∃ pre post eg g, L = pre ++ post ∧ n = post.length ∧ e 0 = .sl exl (nls L) L.length ∧ e 4 = .int .i64 (pre.length : Nat) ∧ e 3 = nsl eg (lim g) ∧ gcdL g post = gcdL 0 L ∧ (lim g).length ≤ 800000)
    L.length ⟨[], L, true, 0, rfl, rfl, ?_, ?_, ?_, rfl, by rw [lim_zero]; decide⟩ ?_
  · simp [Env.set, e0]
  · simp [Env.set]
  · simp [Env.set, lim_zero, nsl, nl]
  clear e0
  rintro n e H ⟨pre, post, eg, g, hsplit, rfl, e0, e4, e3, hg, hgl⟩
  cases post with
  | nil =>
    have hpl : pre.length = L.length := by rw [hsplit]; simp
    simp -implicitDefEqProofs (disch := omega) only [↓ZD,ZP,cnd_t,cnd_f,↓reduceIte,Env.put,stepO,lenV,binV,binInt,unV,loadV,sliceV,boundOf,convV,slstrV,if_pos,if_neg,Int.reduceToNat,Nat.reducePow,V.cells,V.isCell,V.boxable,Nat.reduceEqDiff,reduceCtorEq,reduceIte,ite_self,enterEnv,e0,e4,e3,hpl]
    refine gives_eq (nsl_ro _ _) ?_
    rw [weak_nsl, ← hg]; rfl
  | cons p post =>
    have hpl : pre.length < L.length := by rw [hsplit]; simp
    have hat : (nls L)[pre.length]? = some (nsl p.1 p.2) := by rw [hsplit]; exact nls_at _ _ _ rfl
    obtain ⟨hp, hpn⟩ := hL p (by rw [hsplit]; simp)
    have g1 := good535 eg p.1 (lim g) p.2 (lim_lm _) hp hgl hpn
    rw [lim_val] at g1
    have hgl2 : (lim (Nat.gcd g (val p.2))).length ≤ 800000 := by
      rcases Nat.eq_zero_or_pos g with h | h
      · rw [h, Nat.gcd_zero_left]; exact Nat.le_trans (lim_len (val_lt hp)) hpn
      · exact Nat.le_trans (lim_mono (Nat.gcd_le_left _ h)) hgl
    simp -implicitDefEqProofs (disch := omega) only [↓ZD,ZP,cnd_t,cnd_f,↓reduceIte,Env.put,stepO,lenV,binV,binInt,unV,loadV,sliceV,boundOf,convV,slstrV,if_pos,if_neg,Int.reduceToNat,Nat.reducePow,V.cells,V.isCell,V.boxable,Nat.reduceEqDiff,reduceCtorEq,reduceIte,ite_self,enterEnv,e0,e4,e3,hat]
    refine calP_ro (by simp [roL, V.ro, nsl_ro]) g1 (nf_ro _) ?_
    simp -implicitDefEqProofs (disch := omega) only [↓ZD,ZP,cnd_t,cnd_f,↓reduceIte,Env.put,stepO,lenV,binV,binInt,unV,loadV,sliceV,boundOf,convV,slstrV,if_pos,if_neg,Int.reduceToNat,Nat.reducePow,V.cells,V.isCell,V.boxable,Nat.reduceEqDiff,reduceCtorEq,reduceIte,ite_self,enterEnv,e0,e4,e3,hat]
    exact ⟨post.length, by simp, pre ++ [p], post, false, Nat.gcd g (val p.2), by rw [hsplit]; simp, rfl, by simp, rfl, hg, hgl2⟩
end Fe
open Go Go.Proofs
namespace Fe
def b479 : C :=
 (.seq
 (.region false [
 oQ 4 (.mov (.c (.sl true [] 0)))])
 (.seq
 (.region false [
 oQ 10 (.mov (.t 0)),
 oQ 11 (.len false (.t 10)),
 oQ 12 (.mov (.t 1)),
 oQ 13 (.len false (.t 12)),
 oQ 14 (.bin 0 .add (.t 11) (.t 13)),
 oQ 15 (.bin 0 .add (.t 14) (.c (.int .i64 1))),
 oQ 16 (.mkslice 1 4 [.int .u32 0] (.t 15) (.t 15)),
 oQ 5 (.mov (.t 16))])
 (.seq
 (.seq
 (.region false [
 oQ 6 (.mov (.c (.int .i64 0)))])
 (.block 0
 (.loop
 (.seq
 (.seq
 (.region false [
 oQ 17 (.mov (.t 6)),
 oQ 18 (.mov (.t 0)),
 oQ 19 (.len false (.t 18)),
 oQ 20 (.bin 0 .lss (.t 17) (.t 19))])
 (.cond (.t 20)
 .skip
 (.exit 0)))
 (.seq
 (.block 1
 (.seq
 (.region false [
 oQ 7 (.mov (.c (.int .u64 0)))])
 (.seq
 (.region false [
 oQ 8 (.mov (.c (.int .i64 0)))])
 (.block 2
 (.loop
 (.seq
 (.seq
 (.region false [
 oQ 23 (.mov (.t 8)),
 oQ 24 (.mov (.t 1)),
 oQ 25 (.len false (.t 24)),
 oQ 26 (.bin 0 .lss (.t 23) (.t 25)),
 oQ 27 (.mov (.t 26)),
 ⟨some 28, .op (.mov (.t 7)), some (27, false)⟩,
 ⟨some 29, .op (.bin 0 .gtr (.t 28) (.c (.int .u64 0))), some (27, false)⟩,
 oQ 30 (.pick (.t 27) (.c (.bool true)) (.t 29))])
 (.cond (.t 30)
 .skip
 (.exit 2)))
 (.seq
 (.block 3
 (.seq
 (.region true [
 oQ 33 (.mov (.t 5)),
 oQ 34 (.mov (.t 6)),
 oQ 35 (.mov (.t 8)),
 oQ 36 (.bin 0 .add (.t 34) (.t 35)),
 oQ 37 (.iaddr 1 (.t 33) (.t 36)),
 oQ 38 (.load false 1 (.t 37)),
 oQ 39 (.conv (.int .u64) (.t 38)),
 oQ 40 (.mov (.t 0)),
 oQ 41 (.mov (.t 6)),
 oQ 42 (.iaddr 1 (.t 40) (.t 41)),
 oQ 43 (.load false 1 (.t 42)),
 oQ 44 (.conv (.int .u64) (.t 43)),
 oQ 45 (.mov (.t 1)),
 oQ 46 (.mov (.t 8)),
 ⟨some 47, .call true (.c (.fn 272 [] [])) [.t 45, .t 46], none⟩,
 oQ 48 (.bin 0 .mul (.t 44) (.t 47)),
 oQ 49 (.bin 0 .add (.t 39) (.t 48)),
 oQ 50 (.mov (.t 7)),
 oQ 51 (.bin 0 .add (.t 49) (.t 50)),
 oQ 9 (.mov (.t 51))])
 (.seq
 (.region false [
 oQ 52 (.mov (.t 5)),
 oQ 53 (.mov (.t 6)),
 oQ 54 (.mov (.t 8)),
 oQ 55 (.bin 0 .add (.t 53) (.t 54)),
 oQ 56 (.mov (.t 9)),
 oQ 57 (.conv (.int .u32) (.t 56)),
 oQ 58 (.iaddr 1 (.t 52) (.t 55)),
 ⟨none, .op (.store 1 (.t 58) (.t 57)), none⟩])
 (.region false [
 oQ 59 (.mov (.t 9)),
 oQ 60 (.bin 0 .shr (.t 59) (.c (.int .u64 32))),
 oQ 7 (.mov (.t 60))]))))
 (.region false [
 oQ 31 (.mov (.t 8)),
 oQ 32 (.bin 0 .add (.t 31) (.c (.int .i64 1))),
 oQ 8 (.mov (.t 32))]))))))))
 (.region false [
 oQ 21 (.mov (.t 6)),
 oQ 22 (.bin 0 .add (.t 21) (.c (.int .i64 1))),
 oQ 6 (.mov (.t 22))]))))))
 (.seq
 (.region false [
 oQ 61 (.mov (.t 5)),
 ⟨some 62, .call false (.c (.fn 269 [] [])) [.t 61], none⟩,
 oQ 4 (.mov (.t 62))])
 .ret))))
def c479 : CF := ⟨63, 2, [.mov (.t 4)], b479⟩
theorem s479 : stripF Go.Proofs.Tryz.prog 217 = some c479 := by kernel_rfl

theorem mul_step {K x y c o lo hi vO vO' vb vb' T p : Nat} (hp : x * y = p) (hs : o + p + c = lo + 4294967296 * hi) (hv : vb = y + 4294967296 * vb') (hO : vO' + K * o = vO + K * lo) (h : vO + K * (c + x * vb) = T) : vO' + K * 4294967296 * (hi + x * vb') = T := by
  have h1 : x * vb = p + 4294967296 * (x * vb') := by rw [hv, Nat.mul_add, hp, Nat.mul_left_comm]
  rw [h1] at h
  generalize x * vb' = q at *
  have h2 : K * (o + p + c) = K * (lo + 4294967296 * hi) := by rw [hs]
  simp only [Nat.mul_add,Nat.mul_assoc] at *
  omega
theorem val_take (a : List Nat) {i : Nat} (h : i < a.length) : val (a.take (i + 1)) = val (a.take i) + 4294967296 ^ i * a.getD i 0 := by
  rw [List.take_add_one, List.getElem?_eq_getElem h, Option.toList_some, val_snoc, List.length_take, List.getD_eq_getElem?_getD, List.getElem?_eq_getElem h, Nat.mul_comm]
  rw [Nat.min_eq_left (by omega)]; rfl
theorem getD_put (A Z : List Nat) (x y j : Nat) (h : j ≠ A.length) : (A ++ y :: Z).getD j 0 = (A ++ x :: Z).getD j 0 := by
  simp only [List.getD_eq_getElem?_getD]
  rcases Nat.lt_or_ge j A.length with h1 | h1
  · rw [List.getElem?_append_left h1, List.getElem?_append_left h1]
  · rw [List.getElem?_append_right h1, List.getElem?_append_right h1]
    obtain ⟨d, hd⟩ : ∃ d, j - A.length = d + 1 := ⟨j - A.length - 1, by omega⟩
    rw [hd]; rfl

set_option maxHeartbeats 2000000 in
theorem good479 (exa exb : Bool) (a b : List Nat) (ha : Lm a) (hb : Lm b) (hla : a.length ≤ 400000) (hlb : b.length ≤ 400000) : Good Go.Proofs.Tryz.prog 217 [nsl exa a, nsl exb b] (nf (lim (val a * val b))) := by
  refine good_go mix s479 (Nat.le_of_ble_eq_true rfl) fun e he => ?_
  have e0 : e 0 = nsl exa a := he 0
  have e1 : e 1 = nsl exb b := he 1
  clear he
  simp only [c479,b479, oQ]
  simp -implicitDefEqProofs (disch := omega) only [↓ZD,ZP,cnd_t,cnd_f,↓reduceIte,Env.put,stepO,lenV,binV,binInt,unV,loadV,sliceV,boundOf,convV,slstrV,if_pos,if_neg,Int.reduceToNat,Nat.reducePow,V.cells,V.isCell,V.boxable,Nat.reduceEqDiff,reduceCtorEq,reduceIte,ite_self,enterEnv,e0,e1,nsl]
  refine go_loop (fun m e H => ∃ i O, m = a.length - i ∧ i ≤ a.length ∧ H = [.cells 0 1 true (nl O)] ∧ O.length = a.length + b.length + 1 ∧ Lm O ∧ val O = val (a.take i) * val b ∧ (∀ j, i + b.length ≤ j → O.getD j 0 = 0) ∧
      e 0 = .sl exa (nl a) a.length ∧ e 1 = .sl exb (nl b) b.length ∧ e 5 = .view 0 0 0 (a.length + b.length + 1) ∧ e 6 = .int .i64 (i : Nat)) a.length
    ⟨0, List.replicate (a.length + b.length + 1) 0, by simp, Nat.zero_le _, ?_, by simp, ?_, ?_, ?_, ?_, ?_, ?_, ?_⟩ ?_
  · rw [mk_zeros]
  · exact fun x hx => by rw [List.eq_of_mem_replicate hx]; decide
  · rw [val_zeros]; simp [val]
  · intro j _
    rw [List.getD_eq_getElem?_getD, List.getElem?_replicate]
    split <;> rfl
  · simp [Env.set, e0, nsl]
  · simp [Env.set, e1, nsl]
  · simp [Env.set]
  · simp [Env.set]
  clear e0 e1
  rintro m e H ⟨i, O, rfl, hi, rfl, hOl, hOm, hval, hzero, e0, e1, e5, e6⟩
  rcases Nat.lt_or_ge i a.length with hlt | hge
  · have hat : (nl a)[i]? = some (limb (a.getD i 0)) := nl_get (by rw [List.getD_eq_getElem?_getD, List.getElem?_eq_getElem hlt]; rfl)
    have hx := getD_lt ha i
    have htk := val_take a hlt
    generalize a.getD i 0 = x at *
    simp -implicitDefEqProofs (disch := omega) only [↓ZD,ZP,cnd_t,cnd_f,↓reduceIte,Env.put,stepO,lenV,binV,binInt,unV,loadV,sliceV,boundOf,convV,slstrV,if_pos,if_neg,Int.reduceToNat,Nat.reducePow,V.cells,V.isCell,V.boxable,Nat.reduceEqDiff,reduceCtorEq,reduceIte,ite_self,enterEnv,e0,e1,e5,e6]
    refine go_loop (fun m e H => ∃ k O c, m = b.length + 2 - k ∧ H = [.cells 0 1 true (nl O)] ∧ O.length = a.length + b.length + 1 ∧ Lm O ∧ c < 4294967296 ∧ (k ≤ b.length ∨ (k = b.length + 1 ∧ c = 0)) ∧ (∀ j, i + b.length ≤ j → i + k ≤ j → O.getD j 0 = 0) ∧
        val O + 4294967296 ^ (i + k) * (c + x * val (b.drop k)) = val (a.take i) * val b + 4294967296 ^ i * (x * val b) ∧
        e 0 = .sl exa (nl a) a.length ∧ e 1 = .sl exb (nl b) b.length ∧ e 5 = .view 0 0 0 (a.length + b.length + 1) ∧ e 6 = .int .i64 (i : Nat) ∧ e 7 = .int .u64 (c : Nat) ∧ e 8 = .int .i64 (k : Nat)) (b.length + 2)
      ⟨0, O, 0, rfl, rfl, hOl, hOm, by decide, .inl (Nat.zero_le _), fun j h _ => hzero j h, by rw [hval]; simp, ?_, ?_, ?_, ?_, ?_, ?_⟩ ?_
    · simp [Env.set, e0]
    · simp [Env.set, e1]
    · simp [Env.set, e5]
    · simp [Env.set, e6]
    · simp [Env.set]
    · simp [Env.set]
    clear hOl hOm hval hzero e0 e1 e5 e6
    clear O
    rintro m e H ⟨k, O, c, rfl, rfl, hOl, hOm, hc, hk, hzero, hval, e0, e1, e5, e6, e7, e8⟩
    by_cases hgo : k < b.length ∨ 0 < c
    · have hkl : k ≤ b.length := by omega
      obtain ⟨A, o, Z, rfl, hA⟩ := mid (L := O) (i := i + k) (by omega)
      have g1 := good515 exb b k hb (by omega) (by omega)
      have hy := getD_lt hb k
      have hdv := val_drop b k
      have ho : o < 4294967296 := hOm o (by simp)
      have hk0 : k = b.length → b.getD k 0 = 0 ∧ o = 0 := fun h => by
        refine ⟨by rw [List.getD_eq_getElem?_getD, List.getElem?_eq_none (by omega)]; rfl, ?_⟩
        have := hzero (i + k) (by omega) (by omega)
        rw [← hA, List.getD_eq_getElem?_getD] at this
        simpa using this
      generalize b.getD k 0 = y at *
      have hp : x * y ≤ 18446744065119617025 := Nat.mul_le_mul (by omega : x ≤ 4294967295) (by omega : y ≤ 4294967295)
      have hp0 : y = 0 → x * y = 0 := fun h => by rw [h, Nat.mul_zero]
      have hmul : ((x : Nat) : Int) * ((y : Nat) : Int) = ((x * y : Nat) : Int) := mul_c x y
      obtain ⟨p, hpp⟩ : ∃ p, x * y = p := ⟨_, rfl⟩
      rw [hpp] at hp hp0 hmul
      have gO := nl_at A Z o hA
      have gP := fun w => nl_put A Z o w hA
      have hvp := val_put A Z o ((o + p + c) % 4294967296)
      have hms := mul_step (o := o) (c := c) (lo := (o + p + c) % 4294967296) (hi := (o + p + c) / 4294967296) hpp (by omega) hdv (by rw [hA] at hvp; exact hvp) hval
      have hw : IntKind.u32.wrap ((o + p + c : Nat) : Int) = (((o + p + c) % 4294967296 : Nat) : Int) := w32 _
      have hlo : (o + p + c) % 4294967296 < 4294967296 := Nat.mod_lt _ (by decide)
      have hhi : (o + p + c) / 4294967296 < 4294967296 := by omega
      have hlast : k = b.length → (o + p + c) / 4294967296 = 0 := fun h => by
        obtain ⟨h1, h2⟩ := hk0 h
        have := hp0 h1
        omega
      have hlen : (nl (A ++ o :: Z)).length = a.length + b.length + 1 := by rw [nl_len, hOl]
      have hik : ((i : Nat) : Int) + ((k : Nat) : Int) = ((i + k : Nat) : Int) := by omega
      have hfin : ∀ w, (∀ j, i + b.length ≤ j → i + (k + 1) ≤ j → (A ++ w :: Z).getD j 0 = 0) := fun w j h1 h2 => by
        rw [getD_put A Z o w j (by omega)]
        exact hzero j h1 (by omega)
      have hOm' : ∀ w, w < 4294967296 → Lm (A ++ w :: Z) := fun w hw => hOm.left.app (fun z hz => by
        rcases List.mem_cons.1 hz with rfl | hz
        · exact hw
        · exact hOm.right.tail z hz)
      have hOl' : ∀ w, (A ++ w :: Z).length = a.length + b.length + 1 := fun w => by rw [← hOl]; simp
      rcases (by omega : k < b.length ∨ (¬ k < b.length ∧ 0 < c)) with h1 | ⟨h1, h2⟩
      · simp -implicitDefEqProofs (disch := omega) only [↓ZD,ZP,cnd_t,cnd_f,↓reduceIte,Env.put,stepO,lenV,binV,binInt,unV,loadV,sliceV,boundOf,convV,slstrV,if_pos,if_neg,Int.reduceToNat,Nat.reducePow,V.cells,V.isCell,V.boxable,Nat.reduceEqDiff,reduceCtorEq,reduceIte,ite_self,enterEnv,e0,e1,e5,e6,e7,e8,hat,limb,hik,gO,loadV,hlen]
        refine calD_ro (by simp [roL, V.ro, nl_ro]) g1 rfl ?_
        simp -implicitDefEqProofs (disch := omega) only [↓ZD,ZP,cnd_t,cnd_f,↓reduceIte,Env.put,stepO,lenV,binV,binInt,unV,loadV,sliceV,boundOf,convV,slstrV,if_pos,if_neg,Int.reduceToNat,Nat.reducePow,V.cells,V.isCell,V.boxable,Nat.reduceEqDiff,reduceCtorEq,reduceIte,ite_self,enterEnv,e0,e1,e5,e6,e7,e8,hat,limb,hik,gO,hmul,hw,shr_c,loadV,hlen]
        exact ⟨_, by omega, k + 1, A ++ (o + p + c) % 4294967296 :: Z, (o + p + c) / 4294967296, rfl, by rw [gP], hOl' _, hOm' _ hlo, hhi, by omega, hfin _, by rw [show i + (k + 1) = i + k + 1 by omega, Nat.pow_succ]; exact hms, rfl, rfl⟩
      · have hc0 : 0 < (c : Int) := by omega
        simp -implicitDefEqProofs (disch := omega) only [↓ZD,ZP,cnd_t,cnd_f,↓reduceIte,Env.put,stepO,lenV,binV,binInt,unV,loadV,sliceV,boundOf,convV,slstrV,if_pos,if_neg,Int.reduceToNat,Nat.reducePow,V.cells,V.isCell,V.boxable,Nat.reduceEqDiff,reduceCtorEq,reduceIte,ite_self,enterEnv,e0,e1,e5,e6,e7,e8,hat,limb,hik,gO,loadV,hlen]
        refine calD_ro (by simp [roL, V.ro, nl_ro]) g1 rfl ?_
        simp -implicitDefEqProofs (disch := omega) only [↓ZD,ZP,cnd_t,cnd_f,↓reduceIte,Env.put,stepO,lenV,binV,binInt,unV,loadV,sliceV,boundOf,convV,slstrV,if_pos,if_neg,Int.reduceToNat,Nat.reducePow,V.cells,V.isCell,V.boxable,Nat.reduceEqDiff,reduceCtorEq,reduceIte,ite_self,enterEnv,e0,e1,e5,e6,e7,e8,hat,limb,hik,gO,hmul,hw,shr_c,loadV,hlen]
        exact ⟨_, by omega, k + 1, A ++ (o + p + c) % 4294967296 :: Z, (o + p + c) / 4294967296, rfl, by rw [gP], hOl' _, hOm' _ hlo, hhi, by omega, hfin _, by rw [show i + (k + 1) = i + k + 1 by omega, Nat.pow_succ]; exact hms, rfl, rfl⟩
    · have hc0 : c = 0 := by omega
      subst hc0
      rw [List.drop_eq_nil_of_le (by omega)] at hval
      simp only [val,Nat.mul_zero,Nat.add_zero] at hval
      simp -implicitDefEqProofs (disch := omega) only [↓ZD,ZP,cnd_t,cnd_f,↓reduceIte,Env.put,stepO,lenV,binV,binInt,unV,loadV,sliceV,boundOf,convV,slstrV,if_pos,if_neg,Int.reduceToNat,Nat.reducePow,V.cells,V.isCell,V.boxable,Nat.reduceEqDiff,reduceCtorEq,reduceIte,ite_self,enterEnv,e0,e1,e5,e6,e7,e8]
      refine ⟨_, ?_, i + 1, O, rfl, by omega, rfl, hOl, hOm, ?_, fun j hj => hzero j (by omega) (by omega), rfl⟩
      · omega
      · rw [hval, htk, Nat.add_mul, Nat.mul_assoc]
  · obtain rfl : i = a.length := by omega
    rw [List.take_length] at hval
    simp -implicitDefEqProofs (disch := omega) only [↓ZD,ZP,cnd_t,cnd_f,↓reduceIte,Env.put,stepO,lenV,binV,binInt,unV,loadV,sliceV,boundOf,convV,slstrV,if_pos,if_neg,Int.reduceToNat,Nat.reducePow,V.cells,V.isCell,V.boxable,Nat.reduceEqDiff,reduceCtorEq,reduceIte,ite_self,enterEnv,e0,e1,e5,e6]
    refine calP_at (l := O) (.inr ⟨0, 0, by rw [hOl], by simp, rfl⟩) (fun ex => lim512 ex O hOm (by omega)) (nf_ro _) fun H'' => ?_
    simp -implicitDefEqProofs (disch := omega) only [↓ZD,ZP,cnd_t,cnd_f,↓reduceIte,Env.put,stepO,lenV,binV,binInt,unV,loadV,sliceV,boundOf,convV,slstrV,if_pos,if_neg,Int.reduceToNat,Nat.reducePow,V.cells,V.isCell,V.boxable,Nat.reduceEqDiff,reduceCtorEq,reduceIte,ite_self,enterEnv]
    exact gives_eq (nf_ro _) (by rw [hval]; rfl)
end Fe
