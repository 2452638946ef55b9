/-
  Contract: the law LexBlanks. No condition.
-/
import Derived.Test.YtjgjfabmakkooaaFfN
open Go Go.Proofs
namespace Fe
set_option linter.unusedSimpArgs false
set_option linter.unusedVariables false
def b3 : C :=
 (.seq
 (.region false [
 ⟨some 2, .op (.mov (.c (.bool false))), none⟩])
 (.seq
 (.region false [
 ⟨some 13, .op (.mov (.t 0)), none⟩,
 ⟨some 14, .call false (.c (.fn 5 [] [])) [.t 13], none⟩,
 ⟨some 12, .op (.mov (.t 14)), none⟩,
 ⟨some 15, .op (.extract (.t 12) 0), none⟩,
 ⟨some 16, .op (.extract (.t 12) 1), none⟩,
 ⟨some 17, .op (.extract (.t 12) 2), none⟩,
 ⟨some 3, .op (.mov (.t 15)), none⟩,
 ⟨some 4, .op (.mov (.t 16)), none⟩,
 ⟨some 5, .op (.mov (.t 17)), none⟩])
 (.seq
 (.seq
 (.region false [
 ⟨some 18, .op (.mov (.t 4)), none⟩,
 ⟨some 19, .op (.bin 0 .neq (.t 18) (.c (.int .i64 0))), none⟩])
 (.cond (.t 19)
 (.seq
 (.region false [
 ⟨some 20, .call false (.c (.fn 6 [] [])) [], none⟩,
 ⟨some 2, .op (.mov (.t 20)), none⟩])
 .ret)
 .skip))
 (.seq
 (.region false [
 ⟨some 6, .op (.mov (.c (.str []))), none⟩])
 (.seq
 (.seq
 (.region false [
 ⟨some 7, .op (.mov (.c (.int .i64 0))), none⟩])
 (.block 0
 (.loop
 (.seq
 (.seq
 (.region false [
 ⟨some 21, .op (.mov (.t 7)), none⟩,
 ⟨some 22, .op (.mov (.t 3)), none⟩,
 ⟨some 23, .op (.len false (.t 22)), none⟩,
 ⟨some 24, .op (.bin 0 .lss (.t 21) (.t 23)), none⟩])
 (.cond (.t 24)
 .skip
 (.exit 0)))
 (.seq
 (.block 1
 (.region false [
 ⟨some 27, .op (.mov (.t 6)), none⟩,
 ⟨some 28, .op (.mov (.t 3)), none⟩,
 ⟨some 29, .op (.mov (.t 7)), none⟩,
 ⟨some 30, .op (.iaddr 5 (.t 28) (.t 29)), none⟩,
 ⟨some 31, .op (.faddr 1 (.t 30)), none⟩,
 ⟨some 32, .op (.load false 1 (.t 31)), none⟩,
 ⟨some 33, .op (.bin 0 .add (.t 32) (.c (.str [32]))), none⟩,
 ⟨some 34, .op (.bin 0 .add (.t 27) (.t 33)), none⟩,
 ⟨some 6, .op (.mov (.t 34)), none⟩]))
 (.region false [
 ⟨some 25, .op (.mov (.t 7)), none⟩,
 ⟨some 26, .op (.bin 0 .add (.t 25) (.c (.int .i64 1))), none⟩,
 ⟨some 7, .op (.mov (.t 26)), none⟩]))))))
 (.seq
 (.region false [
 ⟨some 36, .op (.mov (.t 6)), none⟩,
 ⟨some 37, .call false (.c (.fn 5 [] [])) [.t 36], none⟩,
 ⟨some 35, .op (.mov (.t 37)), none⟩,
 ⟨some 38, .op (.extract (.t 35) 0), none⟩,
 ⟨some 39, .op (.extract (.t 35) 1), none⟩,
 ⟨some 40, .op (.extract (.t 35) 2), none⟩,
 ⟨some 8, .op (.mov (.t 38)), none⟩,
 ⟨some 9, .op (.mov (.t 39)), none⟩,
 ⟨some 10, .op (.mov (.t 40)), none⟩])
 (.seq
 (.seq
 (.region false [
 ⟨some 41, .op (.mov (.t 6)), none⟩,
 ⟨some 42, .op (.len true (.t 41)), none⟩,
 ⟨some 43, .op (.bin 0 .gtr (.t 42) (.c (.int .i64 1024))), none⟩])
 (.cond (.t 43)
 (.seq
 (.region false [
 ⟨some 44, .call false (.c (.fn 6 [] [])) [], none⟩,
 ⟨some 45, .op (.mov (.t 44)), none⟩,
 ⟨some 46, .op (.mov (.t 9)), some (45, true)⟩,
 ⟨some 47, .op (.bin 0 .eql (.t 46) (.c (.int .i64 25))), some (45, true)⟩,
 ⟨some 48, .op (.pick (.t 45) (.t 47) (.c (.bool false))), none⟩,
 ⟨some 2, .op (.mov (.t 48)), none⟩])
 .ret)
 .skip))
 (.seq
 (.seq
 (.region false [
 ⟨some 49, .op (.mov (.t 9)), none⟩,
 ⟨some 50, .op (.bin 0 .neq (.t 49) (.c (.int .i64 0))), none⟩,
 ⟨some 51, .op (.mov (.t 50)), none⟩,
 ⟨some 52, .op (.mov (.t 8)), some (51, false)⟩,
 ⟨some 53, .op (.len false (.t 52)), some (51, false)⟩,
 ⟨some 54, .op (.mov (.t 3)), some (51, false)⟩,
 ⟨some 55, .op (.len false (.t 54)), some (51, false)⟩,
 ⟨some 56, .op (.bin 0 .neq (.t 53) (.t 55)), some (51, false)⟩,
 ⟨some 57, .op (.pick (.t 51) (.c (.bool true)) (.t 56)), none⟩])
 (.cond (.t 57)
 (.seq
 (.region false [
 ⟨some 2, .op (.mov (.c (.bool false))), none⟩])
 .ret)
 .skip))
 (.seq
 (.seq
 (.region false [
 ⟨some 11, .op (.mov (.c (.int .i64 0))), none⟩])
 (.block 2
 (.loop
 (.seq
 (.seq
 (.region false [
 ⟨some 58, .op (.mov (.t 11)), none⟩,
 ⟨some 59, .op (.mov (.t 3)), none⟩,
 ⟨some 60, .op (.len false (.t 59)), none⟩,
 ⟨some 61, .op (.bin 0 .lss (.t 58) (.t 60)), none⟩])
 (.cond (.t 61)
 .skip
 (.exit 2)))
 (.seq
 (.block 3
 (.seq
 (.region true [
 ⟨some 64, .op (.mov (.t 3)), none⟩,
 ⟨some 65, .op (.mov (.t 11)), none⟩,
 ⟨some 66, .op (.iaddr 5 (.t 64) (.t 65)), none⟩,
 ⟨some 67, .op (.faddr 0 (.t 66)), none⟩,
 ⟨some 68, .op (.load false 1 (.t 67)), none⟩,
 ⟨some 69, .op (.mov (.t 8)), none⟩,
 ⟨some 70, .op (.mov (.t 11)), none⟩,
 ⟨some 71, .op (.iaddr 5 (.t 69) (.t 70)), none⟩,
 ⟨some 72, .op (.faddr 0 (.t 71)), none⟩,
 ⟨some 73, .op (.load false 1 (.t 72)), none⟩,
 ⟨some 74, .op (.bin 0 .neq (.t 68) (.t 73)), none⟩,
 ⟨some 75, .op (.mov (.t 74)), none⟩,
 ⟨some 76, .op (.mov (.t 3)), some (75, false)⟩,
 ⟨some 77, .op (.mov (.t 11)), some (75, false)⟩,
 ⟨some 78, .op (.iaddr 5 (.t 76) (.t 77)), some (75, false)⟩,
 ⟨some 79, .op (.faddr 1 (.t 78)), some (75, false)⟩,
 ⟨some 80, .op (.load false 1 (.t 79)), some (75, false)⟩,
 ⟨some 81, .op (.mov (.t 8)), some (75, false)⟩,
 ⟨some 82, .op (.mov (.t 11)), some (75, false)⟩,
 ⟨some 83, .op (.iaddr 5 (.t 81) (.t 82)), some (75, false)⟩,
 ⟨some 84, .op (.faddr 1 (.t 83)), some (75, false)⟩,
 ⟨some 85, .op (.load false 1 (.t 84)), some (75, false)⟩,
 ⟨some 86, .op (.bin 0 .neq (.t 80) (.t 85)), some (75, false)⟩,
 ⟨some 87, .op (.pick (.t 75) (.c (.bool true)) (.t 86)), none⟩,
 ⟨some 88, .op (.mov (.t 87)), none⟩,
 ⟨some 89, .op (.mov (.t 3)), some (88, false)⟩,
 ⟨some 90, .op (.mov (.t 11)), some (88, false)⟩,
 ⟨some 91, .op (.iaddr 5 (.t 89) (.t 90)), some (88, false)⟩,
 ⟨some 92, .op (.faddr 3 (.t 91)), some (88, false)⟩,
 ⟨some 93, .op (.load true 2 (.t 92)), some (88, false)⟩,
 ⟨some 94, .op (.mov (.t 8)), some (88, false)⟩,
 ⟨some 95, .op (.mov (.t 11)), some (88, false)⟩,
 ⟨some 96, .op (.iaddr 5 (.t 94) (.t 95)), some (88, false)⟩,
 ⟨some 97, .op (.faddr 3 (.t 96)), some (88, false)⟩,
 ⟨some 98, .op (.load true 2 (.t 97)), some (88, false)⟩,
 ⟨some 99, .call false (.c (.fn 7 [] [])) [.t 93, .t 98], some (88, false)⟩,
 ⟨some 100, .op (.un .not (.t 99)), some (88, false)⟩,
 ⟨some 101, .op (.pick (.t 88) (.c (.bool true)) (.t 100)), none⟩])
 (.cond (.t 101)
 (.seq
 (.region false [
 ⟨some 2, .op (.mov (.c (.bool false))), none⟩])
 .ret)
 .skip)))
 (.region false [
 ⟨some 62, .op (.mov (.t 11)), none⟩,
 ⟨some 63, .op (.bin 0 .add (.t 62) (.c (.int .i64 1))), none⟩,
 ⟨some 11, .op (.mov (.t 63)), none⟩]))))))
 (.seq
 (.region false [
 ⟨some 102, .call false (.c (.fn 6 [] [])) [], none⟩,
 ⟨some 2, .op (.mov (.t 102)), none⟩])
 .ret))))))))))
def c3 : CF := ⟨103, 1, [.mov (.t 2)], b3⟩
theorem s3 : stripF Go.Proofs.Try.prog 3 = some c3 := by kernel_rfl

theorem lexL_err : ∀ (n i : Nat) (l : List Nat) (e j : Nat), lexL n i l = .error (e, j) → e ≠ 0
  | 0, i, l, e, j, h => by cases h
  | n + 1, i, l, e, j, h => by
    rw [lexL] at h
    cases hdw : l.dropWhile blankC with
    | nil => rw [hdw] at h; cases h
    | cons c r =>
      rw [hdw] at h
      simp only at h
      by_cases hc : c = 9053
      · rw [if_pos hc] at h; cases h
      · rw [if_neg hc] at h
        cases htok : tokenS (c :: r) with
        | err er =>
          rw [htok] at h
          simp only [Except.error.injEq,Prod.mk.injEq] at h
          have := tokenS_e htok
          omega
        | ok kind k a1 a2 =>
          rw [htok] at h
          simp only at h
          cases hrec : lexL n (i + (l.takeWhile blankC).length + k) ((c :: r).drop k) with
          | error x =>
            rw [hrec] at h
            obtain ⟨e', j'⟩ := x
            simp only [Except.error.injEq,Prod.mk.injEq] at h
            have := lexL_err n _ _ e' j' hrec
            omega
          | ok ts1 => rw [hrec] at h; cases h

theorem allR_cases (s : List UInt8) : (∃ er j : Nat, er ≠ 0 ∧ allR s = .tup [.sl false [] 0, .int .i64 (er : Nat), .int .i64 (j : Nat)]) ∨
    (∃ ts, allR s = .tup [.sl false ts.flatten ts.length, .int .i64 0, .int .i64 0] ∧ s.length ≤ 1024 ∧ bad s = none ∧ lexL ((rn s).length + 1) 0 (rn s) = .ok ts) := by
  unfold allR
  split
  · exact .inl ⟨25, 0, by decide, rfl⟩
  · rename_i hl
    split
    · rename_i i hb
      exact .inl ⟨26, i, by decide, rfl⟩
    · rename_i hb
      split
      · rename_i e j hx
        exact .inl ⟨e, j, lexL_err _ _ _ _ _ hx, rfl⟩
      · rename_i ts hx
        exact .inr ⟨ts, rfl, by omega, hb, hx⟩

theorem shl_ro : ∀ l : List Nat, roL (shl' l) = true
  | [] => rfl
  | c :: l => by simp only [shl',List.map_cons,roL,Bool.and_eq_true]; exact ⟨rfl, shl_ro l⟩
theorem its_ro : ∀ its : List (List V), (∀ t ∈ its, SItem t) → roL its.flatten = true
  | [], _ => rfl
  | t :: ts, h => by
    rw [List.flatten_cons, roL_app, its_ro ts fun x hx => h x (List.mem_cons_of_mem _ hx)]
    obtain ⟨_, _, _, _, _, _, _, _, _, _, rfl⟩ := h t (List.mem_cons_self ..)
    simp [roL, V.ro, nsl_ro]
theorem arr_ro {a1 a2 : V} (h : ArrOK a1 a2) : a1.ro = true ∧ a2.ro = true := by
  obtain ⟨ea, eb, sh, its, rfl, rfl, _, _, hi⟩ := h
  exact ⟨shl_ro sh, its_ro its hi⟩
theorem mats_facts {ts ts' : List (List V)} (h : Mats ts ts') : ts.length = ts'.length ∧ (∀ t ∈ ts, t.length = 5) ∧ (∀ t ∈ ts', t.length = 5) ∧ roL ts.flatten = true ∧ roL ts'.flatten = true := by
  induction h with
  | nil => exact ⟨rfl, fun t ht => by simp at ht, fun t ht => by simp at ht, rfl, rfl⟩
  | cons hm _ ih =>
    obtain ⟨kind, text, i, i', a1, a2, rfl, rfl, ha⟩ := hm
    obtain ⟨h1, h2⟩ := arr_ro ha
    obtain ⟨g1, g2, g3, g4, g5⟩ := ih
    refine ⟨by simp [g1], ?_, ?_, ?_, ?_⟩
    · intro t ht
      rcases List.mem_cons.1 ht with rfl | ht
      · rfl
      · exact g2 t ht
    · intro t ht
      rcases List.mem_cons.1 ht with rfl | ht
      · rfl
      · exact g3 t ht
    · rw [List.flatten_cons, roL_app, g4]; simp [tokC, roL, V.ro, h1, h2]
    · rw [List.flatten_cons, roL_app, g5]; simp [tokC, roL, V.ro, h1, h2]

theorem flat5_drop {A Z : List (List V)} {t : List V} (hA : ∀ x ∈ A, x.length = 5) : (A ++ t :: Z).flatten.drop (A.length * 5) = t ++ Z.flatten := by
  rw [List.flatten_append, List.flatten_cons, ← flat_len A hA, List.drop_left]
theorem flat5_at {A Z : List (List V)} {t : List V} (hA : ∀ x ∈ A, x.length = 5) (ht : t.length = 5) {j : Nat} (hj : j < 5) : (A ++ t :: Z).flatten[A.length * 5 + j]? = t[j]? := by
  rw [← List.getElem?_drop, flat5_drop hA, List.getElem?_append_left (by omega)]
theorem flat5_two {A Z : List (List V)} {x y z a1 a2 : V} (hA : ∀ x ∈ A, x.length = 5) : ((A ++ [x, y, z, a1, a2] :: Z).flatten.drop (A.length * 5 + 3)).take 2 = [a1, a2] := by
  rw [← List.drop_drop, flat5_drop hA]; rfl

theorem live_ro3 (L : List V) (n : Nat) (h : roL L = true) : (V.tup [.sl false L n, .int .i64 0, .int .i64 0]).ro = true := by simp [V.ro, roL, h]
theorem joinB_app (A B : List (List V)) : joinB (A ++ B) = joinB A ++ joinB B := by simp [joinB]

theorem joinB_len : ∀ ts : List (List V), ts.length ≤ (joinB ts).length
  | [] => Nat.zero_le _
  | t :: ts => by
    have := joinB_len ts
    rw [joinB_cons]
    simp only [List.length_append,List.length_cons,List.length_nil]
    omega
theorem mats_tok {ts ts' : List (List V)} (h : Mats ts ts') : ∀ t ∈ ts, ∃ kind text i a1 a2, t = tokC kind text i a1 a2 := by
  induction h with
  | nil => intro t ht; simp at ht
  | cons hm _ ih =>
    intro t ht
    rcases List.mem_cons.1 ht with rfl | ht
    · obtain ⟨kind, text, i, i', a1, a2, h1, _⟩ := hm
      exact ⟨kind, text, i, a1, a2, h1⟩
    · exact ih t ht

set_option maxHeartbeats 8000000 in
theorem good3 (s : List UInt8) : Good Go.Proofs.Try.prog 3 [.str s] (.bool true) := by
  refine good_go mix s3 (Nat.le_of_ble_eq_true rfl) fun e he => ?_
  have e0 : e 0 = .str s := he 0
  clear he
  have h5 := good5 s
  simp only [c3,b3]
  simp -implicitDefEqProofs (disch := omega) only [↓go_skip,↓go_regf,↓go_regt,↓go_seq,↓go_block,↓go_exit,↓go_ret,↓go_cond,↓go_range,↓cnd_t,↓cnd_f,↓out_nil,↓out_seq,↓out_seqx,↓out_seqr,↓out_blk,↓out_blkr,↓out_blkx,↓ops_nil,↓ops_opf,↓ops_opt,↓ops_grd,↓ops_call,↓ops_calld,↓ops_callc,stp_some,grd_tt,grd_ff,grd_tf,grd_ft,grd_u,cnd_t,cnd_f,cnd_any,↓reduceIte,↓then_n,↓then_x,↓then_r,↓cont_out,↓ev_t,↓ev_c,↓evs_nil,↓evs_cons,↓parts_nil,↓parts_cons,Env.put,↓set_at,stepO,lenV,binV,binInt,unV,loadV,sliceV,boundOf,convV,slstrV,List.map_cons,List.map_nil,Option.map_some,Option.bind_some,if_pos,if_neg,wr_i64,w64',w32',w8',Int.reduceToNat,Nat.reducePow,mins',mins32,or64n,or32n,or_high,V.cells,V.isCell,V.boxable,List.all_cons,List.all_nil,List.getElem?_cons_zero,List.getElem?_cons_succ,List.set_cons_zero,List.set_cons_succ,Nat.reduceEqDiff,reduceCtorEq,Bool.not_true,Bool.not_false,Bool.false_eq_true,↓done0,↓done0n,↓done1,↓done2,↓done3,↓done4,↓done_l,↓done_lm,↓done_lll,onSome_some,Option.isNone_some,Option.isNone_none,Option.isSome_some,Option.isSome_none,true_and,and_true,false_and,and_false,reduceIte,false_imp_iff,true_imp_iff,Bool.and_false,Bool.and_true,Bool.or_true,Bool.or_false,Bool.true_and,Bool.false_and,Bool.true_or,Bool.false_or,decide_eq_true,decide_eq_false,ibeq_t,ibeq_f,ibne_t,ibne_f,beq_self_eq_true,ite_self,Nat.zero_add,Nat.add_zero,Nat.mul_one,toNat_c,add_c,add_one_c,List.nil_append,List.cons_append,enterEnv,List.getD_cons_zero,List.getD_cons_succ,List.getD_nil,List.length_nil,List.length_cons,List.length_append,List.length_map,List.isEmpty_nil,List.isEmpty_cons,e0]
  rcases allR_cases s with ⟨er, j, hne, hall⟩ | ⟨ts, hall, hlen, hbad, hlex⟩
  · rw [hall] at h5
    refine calP_ro (str_ro _) h5 rfl ?_
    simp -implicitDefEqProofs (disch := omega) only [↓go_skip,↓go_regf,↓go_regt,↓go_seq,↓go_block,↓go_exit,↓go_ret,↓go_cond,↓go_range,↓cnd_t,↓cnd_f,↓out_nil,↓out_seq,↓out_seqx,↓out_seqr,↓out_blk,↓out_blkr,↓out_blkx,↓ops_nil,↓ops_opf,↓ops_opt,↓ops_grd,↓ops_call,↓ops_calld,↓ops_callc,stp_some,grd_tt,grd_ff,grd_tf,grd_ft,grd_u,cnd_t,cnd_f,cnd_any,↓reduceIte,↓then_n,↓then_x,↓then_r,↓cont_out,↓ev_t,↓ev_c,↓evs_nil,↓evs_cons,↓parts_nil,↓parts_cons,Env.put,↓set_at,stepO,lenV,binV,binInt,unV,loadV,sliceV,boundOf,convV,slstrV,List.map_cons,List.map_nil,Option.map_some,Option.bind_some,if_pos,if_neg,wr_i64,w64',w32',w8',Int.reduceToNat,Nat.reducePow,mins',mins32,or64n,or32n,or_high,V.cells,V.isCell,V.boxable,List.all_cons,List.all_nil,List.getElem?_cons_zero,List.getElem?_cons_succ,List.set_cons_zero,List.set_cons_succ,Nat.reduceEqDiff,reduceCtorEq,Bool.not_true,Bool.not_false,Bool.false_eq_true,↓done0,↓done0n,↓done1,↓done2,↓done3,↓done4,↓done_l,↓done_lm,↓done_lll,onSome_some,Option.isNone_some,Option.isNone_none,Option.isSome_some,Option.isSome_none,true_and,and_true,false_and,and_false,reduceIte,false_imp_iff,true_imp_iff,Bool.and_false,Bool.and_true,Bool.or_true,Bool.or_false,Bool.true_and,Bool.false_and,Bool.true_or,Bool.false_or,decide_eq_true,decide_eq_false,ibeq_t,ibeq_f,ibne_t,ibne_f,beq_self_eq_true,ite_self,Nat.zero_add,Nat.add_zero,Nat.mul_one,toNat_c,add_c,add_one_c,List.nil_append,List.cons_append,enterEnv,List.getD_cons_zero,List.getD_cons_succ,List.getD_nil,List.length_nil,List.length_cons,List.length_append,List.length_map,List.isEmpty_nil,List.isEmpty_cons,e0]
    refine calP_ro rfl good6 rfl ?_
    simp -implicitDefEqProofs (disch := omega) only [↓go_skip,↓go_regf,↓go_regt,↓go_seq,↓go_block,↓go_exit,↓go_ret,↓go_cond,↓go_range,↓cnd_t,↓cnd_f,↓out_nil,↓out_seq,↓out_seqx,↓out_seqr,↓out_blk,↓out_blkr,↓out_blkx,↓ops_nil,↓ops_opf,↓ops_opt,↓ops_grd,↓ops_call,↓ops_calld,↓ops_callc,stp_some,grd_tt,grd_ff,grd_tf,grd_ft,grd_u,cnd_t,cnd_f,cnd_any,↓reduceIte,↓then_n,↓then_x,↓then_r,↓cont_out,↓ev_t,↓ev_c,↓evs_nil,↓evs_cons,↓parts_nil,↓parts_cons,Env.put,↓set_at,stepO,lenV,binV,binInt,unV,loadV,sliceV,boundOf,convV,slstrV,List.map_cons,List.map_nil,Option.map_some,Option.bind_some,if_pos,if_neg,wr_i64,w64',w32',w8',Int.reduceToNat,Nat.reducePow,mins',mins32,or64n,or32n,or_high,V.cells,V.isCell,V.boxable,List.all_cons,List.all_nil,List.getElem?_cons_zero,List.getElem?_cons_succ,List.set_cons_zero,List.set_cons_succ,Nat.reduceEqDiff,reduceCtorEq,Bool.not_true,Bool.not_false,Bool.false_eq_true,↓done0,↓done0n,↓done1,↓done2,↓done3,↓done4,↓done_l,↓done_lm,↓done_lll,onSome_some,Option.isNone_some,Option.isNone_none,Option.isSome_some,Option.isSome_none,true_and,and_true,false_and,and_false,reduceIte,false_imp_iff,true_imp_iff,Bool.and_false,Bool.and_true,Bool.or_true,Bool.or_false,Bool.true_and,Bool.false_and,Bool.true_or,Bool.false_or,decide_eq_true,decide_eq_false,ibeq_t,ibeq_f,ibne_t,ibne_f,beq_self_eq_true,ite_self,Nat.zero_add,Nat.add_zero,Nat.mul_one,toNat_c,add_c,add_one_c,List.nil_append,List.cons_append,enterEnv,List.getD_cons_zero,List.getD_cons_succ,List.getD_nil,List.length_nil,List.length_cons,List.length_append,List.length_map,List.isEmpty_nil,List.isEmpty_cons,e0]
    exact gives_eq rfl rfl
  rw [hall] at h5
  have hrl := rn_len s
  obtain ⟨js, hj1, hjl, hj2, hj3⟩ := relex _ 0 (rn s) ts (rn_ok _ _) (by omega) (by omega) hlex
  obtain ⟨ts', hlex', hmats⟩ := hj3 0
  obtain ⟨m1, m2, m3, m4, m5⟩ := mats_facts hmats
  have hJ := encs_len js
  rw [← hj1] at hJ
  have hflat := flat_len ts m2
  have htl : ts.length ≤ 10000 := by
    have h0 : ts.length ≤ (joinB ts).length := joinB_len ts
    omega
  refine calP_ro (str_ro _) h5 (live_ro3 _ _ m4) ?_
  simp -implicitDefEqProofs (disch := omega) only [↓go_skip,↓go_regf,↓go_regt,↓go_seq,↓go_block,↓go_exit,↓go_ret,↓go_cond,↓go_range,↓cnd_t,↓cnd_f,↓out_nil,↓out_seq,↓out_seqx,↓out_seqr,↓out_blk,↓out_blkr,↓out_blkx,↓ops_nil,↓ops_opf,↓ops_opt,↓ops_grd,↓ops_call,↓ops_calld,↓ops_callc,stp_some,grd_tt,grd_ff,grd_tf,grd_ft,grd_u,cnd_t,cnd_f,cnd_any,↓reduceIte,↓then_n,↓then_x,↓then_r,↓cont_out,↓ev_t,↓ev_c,↓evs_nil,↓evs_cons,↓parts_nil,↓parts_cons,Env.put,↓set_at,stepO,lenV,binV,binInt,unV,loadV,sliceV,boundOf,convV,slstrV,List.map_cons,List.map_nil,Option.map_some,Option.bind_some,if_pos,if_neg,wr_i64,w64',w32',w8',Int.reduceToNat,Nat.reducePow,mins',mins32,or64n,or32n,or_high,V.cells,V.isCell,V.boxable,List.all_cons,List.all_nil,List.getElem?_cons_zero,List.getElem?_cons_succ,List.set_cons_zero,List.set_cons_succ,Nat.reduceEqDiff,reduceCtorEq,Bool.not_true,Bool.not_false,Bool.false_eq_true,↓done0,↓done0n,↓done1,↓done2,↓done3,↓done4,↓done_l,↓done_lm,↓done_lll,onSome_some,Option.isNone_some,Option.isNone_none,Option.isSome_some,Option.isSome_none,true_and,and_true,false_and,and_false,reduceIte,false_imp_iff,true_imp_iff,Bool.and_false,Bool.and_true,Bool.or_true,Bool.or_false,Bool.true_and,Bool.false_and,Bool.true_or,Bool.false_or,decide_eq_true,decide_eq_false,ibeq_t,ibeq_f,ibne_t,ibne_f,beq_self_eq_true,ite_self,Nat.zero_add,Nat.add_zero,Nat.mul_one,toNat_c,add_c,add_one_c,List.nil_append,List.cons_append,enterEnv,List.getD_cons_zero,List.getD_cons_succ,List.getD_nil,List.length_nil,List.length_cons,List.length_append,List.length_map,List.isEmpty_nil,List.isEmpty_cons,e0]
  refine go_loop (fun k e H => H = [] ∧ ∃ A Z, ts = A ++ Z ∧ k = Z.length ∧ e 3 = .sl false ts.flatten ts.length ∧ e 6 = .str (joinB A) ∧ e 7 = .int .i64 (A.length : Nat)) ts.length ⟨rfl, [], ts, rfl, rfl, ?_, ?_, ?_⟩ ?_
  · simp [Env.set]
  · simp [Env.set, joinB]
  · simp [Env.set]
  clear e0
  rintro k e H ⟨rfl, A, Z, hAZ, rfl, e3, e6, e7⟩
  have hAl : ts.length = A.length + Z.length := by rw [hAZ]; simp
  have hA5 : ∀ x ∈ A, x.length = 5 := fun x hx => m2 x (by rw [hAZ]; exact List.mem_append_left _ hx)
  cases Z with
  | cons t Z =>
    simp only [List.length_cons] at hAl
    obtain ⟨kind, text, i1, a1, a2, ht⟩ : ∃ kind text i1 a1 a2, t = tokC kind text i1 a1 a2 := mats_tok hmats t (by rw [hAZ]; simp)
    have hat : ts.flatten[A.length * 5 + 1]? = some (.str text) := by
      rw [hAZ, flat5_at hA5 (by rw [ht]; rfl) (by decide), ht]; rfl
    have hjl2 : (joinB A).length + (text.length + 1) ≤ (joinB ts).length := by
      rw [hAZ, joinB_app, joinB_cons, ht]
      simp only [List.length_append,textOf,tokC,List.length_singleton]
      omega
    have hjn : joinB (A ++ [t]) = joinB A ++ (text ++ [32]) := by
      rw [joinB_app, joinB_cons, ht]; simp [joinB, textOf, tokC]
    simp -implicitDefEqProofs (disch := omega) only [↓go_skip,↓go_regf,↓go_regt,↓go_seq,↓go_block,↓go_exit,↓go_ret,↓go_cond,↓go_range,↓cnd_t,↓cnd_f,↓out_nil,↓out_seq,↓out_seqx,↓out_seqr,↓out_blk,↓out_blkr,↓out_blkx,↓ops_nil,↓ops_opf,↓ops_opt,↓ops_grd,↓ops_call,↓ops_calld,↓ops_callc,stp_some,grd_tt,grd_ff,grd_tf,grd_ft,grd_u,cnd_t,cnd_f,cnd_any,↓reduceIte,↓then_n,↓then_x,↓then_r,↓cont_out,↓ev_t,↓ev_c,↓evs_nil,↓evs_cons,↓parts_nil,↓parts_cons,Env.put,↓set_at,stepO,lenV,binV,binInt,unV,loadV,sliceV,boundOf,convV,slstrV,List.map_cons,List.map_nil,Option.map_some,Option.bind_some,if_pos,if_neg,wr_i64,w64',w32',w8',Int.reduceToNat,Nat.reducePow,mins',mins32,or64n,or32n,or_high,V.cells,V.isCell,V.boxable,List.all_cons,List.all_nil,List.getElem?_cons_zero,List.getElem?_cons_succ,List.set_cons_zero,List.set_cons_succ,Nat.reduceEqDiff,reduceCtorEq,Bool.not_true,Bool.not_false,Bool.false_eq_true,↓done0,↓done0n,↓done1,↓done2,↓done3,↓done4,↓done_l,↓done_lm,↓done_lll,onSome_some,Option.isNone_some,Option.isNone_none,Option.isSome_some,Option.isSome_none,true_and,and_true,false_and,and_false,reduceIte,false_imp_iff,true_imp_iff,Bool.and_false,Bool.and_true,Bool.or_true,Bool.or_false,Bool.true_and,Bool.false_and,Bool.true_or,Bool.false_or,decide_eq_true,decide_eq_false,ibeq_t,ibeq_f,ibne_t,ibne_f,beq_self_eq_true,ite_self,Nat.zero_add,Nat.add_zero,Nat.mul_one,toNat_c,add_c,add_one_c,List.nil_append,List.cons_append,enterEnv,List.getD_cons_zero,List.getD_cons_succ,List.getD_nil,List.length_nil,List.length_cons,List.length_append,List.length_map,List.isEmpty_nil,List.isEmpty_cons,e3,e6,e7,hat,binStr]
    refine ⟨Z.length, by simp, A ++ [t], Z, by rw [hAZ]; simp, rfl, ?_, ?_⟩
    · rw [hjn]
    · simp
  | nil =>
    rw [List.append_nil] at hAZ
    subst hAZ
    simp -implicitDefEqProofs (disch := omega) only [↓go_skip,↓go_regf,↓go_regt,↓go_seq,↓go_block,↓go_exit,↓go_ret,↓go_cond,↓go_range,↓cnd_t,↓cnd_f,↓out_nil,↓out_seq,↓out_seqx,↓out_seqr,↓out_blk,↓out_blkr,↓out_blkx,↓ops_nil,↓ops_opf,↓ops_opt,↓ops_grd,↓ops_call,↓ops_calld,↓ops_callc,stp_some,grd_tt,grd_ff,grd_tf,grd_ft,grd_u,cnd_t,cnd_f,cnd_any,↓reduceIte,↓then_n,↓then_x,↓then_r,↓cont_out,↓ev_t,↓ev_c,↓evs_nil,↓evs_cons,↓parts_nil,↓parts_cons,Env.put,↓set_at,stepO,lenV,binV,binInt,unV,loadV,sliceV,boundOf,convV,slstrV,List.map_cons,List.map_nil,Option.map_some,Option.bind_some,if_pos,if_neg,wr_i64,w64',w32',w8',Int.reduceToNat,Nat.reducePow,mins',mins32,or64n,or32n,or_high,V.cells,V.isCell,V.boxable,List.all_cons,List.all_nil,List.getElem?_cons_zero,List.getElem?_cons_succ,List.set_cons_zero,List.set_cons_succ,Nat.reduceEqDiff,reduceCtorEq,Bool.not_true,Bool.not_false,Bool.false_eq_true,↓done0,↓done0n,↓done1,↓done2,↓done3,↓done4,↓done_l,↓done_lm,↓done_lll,onSome_some,Option.isNone_some,Option.isNone_none,Option.isSome_some,Option.isSome_none,true_and,and_true,false_and,and_false,reduceIte,false_imp_iff,true_imp_iff,Bool.and_false,Bool.and_true,Bool.or_true,Bool.or_false,Bool.true_and,Bool.false_and,Bool.true_or,Bool.false_or,decide_eq_true,decide_eq_false,ibeq_t,ibeq_f,ibne_t,ibne_f,beq_self_eq_true,ite_self,Nat.zero_add,Nat.add_zero,Nat.mul_one,toNat_c,add_c,add_one_c,List.nil_append,List.cons_append,enterEnv,List.getD_cons_zero,List.getD_cons_succ,List.getD_nil,List.length_nil,List.length_cons,List.length_append,List.length_map,List.isEmpty_nil,List.isEmpty_cons,e3,e6,e7]
    have h5' := good5 (joinB ts)
    by_cases hlong : 1024 < (joinB ts).length
    · have hall' : allR (joinB ts) = .tup [.sl false [] 0, .int .i64 25, .int .i64 0] := by rw [allR, if_pos hlong]
      rw [hall'] at h5'
      refine calP_ro (str_ro _) h5' rfl ?_
      simp -implicitDefEqProofs (disch := omega) only [↓go_skip,↓go_regf,↓go_regt,↓go_seq,↓go_block,↓go_exit,↓go_ret,↓go_cond,↓go_range,↓cnd_t,↓cnd_f,↓out_nil,↓out_seq,↓out_seqx,↓out_seqr,↓out_blk,↓out_blkr,↓out_blkx,↓ops_nil,↓ops_opf,↓ops_opt,↓ops_grd,↓ops_call,↓ops_calld,↓ops_callc,stp_some,grd_tt,grd_ff,grd_tf,grd_ft,grd_u,cnd_t,cnd_f,cnd_any,↓reduceIte,↓then_n,↓then_x,↓then_r,↓cont_out,↓ev_t,↓ev_c,↓evs_nil,↓evs_cons,↓parts_nil,↓parts_cons,Env.put,↓set_at,stepO,lenV,binV,binInt,unV,loadV,sliceV,boundOf,convV,slstrV,List.map_cons,List.map_nil,Option.map_some,Option.bind_some,if_pos,if_neg,wr_i64,w64',w32',w8',Int.reduceToNat,Nat.reducePow,mins',mins32,or64n,or32n,or_high,V.cells,V.isCell,V.boxable,List.all_cons,List.all_nil,List.getElem?_cons_zero,List.getElem?_cons_succ,List.set_cons_zero,List.set_cons_succ,Nat.reduceEqDiff,reduceCtorEq,Bool.not_true,Bool.not_false,Bool.false_eq_true,↓done0,↓done0n,↓done1,↓done2,↓done3,↓done4,↓done_l,↓done_lm,↓done_lll,onSome_some,Option.isNone_some,Option.isNone_none,Option.isSome_some,Option.isSome_none,true_and,and_true,false_and,and_false,reduceIte,false_imp_iff,true_imp_iff,Bool.and_false,Bool.and_true,Bool.or_true,Bool.or_false,Bool.true_and,Bool.false_and,Bool.true_or,Bool.false_or,decide_eq_true,decide_eq_false,ibeq_t,ibeq_f,ibne_t,ibne_f,beq_self_eq_true,ite_self,Nat.zero_add,Nat.add_zero,Nat.mul_one,toNat_c,add_c,add_one_c,List.nil_append,List.cons_append,enterEnv,List.getD_cons_zero,List.getD_cons_succ,List.getD_nil,List.length_nil,List.length_cons,List.length_append,List.length_map,List.isEmpty_nil,List.isEmpty_cons,e3,e6,e7]
      refine calP_ro rfl good6 rfl ?_
      simp -implicitDefEqProofs (disch := omega) only [↓go_skip,↓go_regf,↓go_regt,↓go_seq,↓go_block,↓go_exit,↓go_ret,↓go_cond,↓go_range,↓cnd_t,↓cnd_f,↓out_nil,↓out_seq,↓out_seqx,↓out_seqr,↓out_blk,↓out_blkr,↓out_blkx,↓ops_nil,↓ops_opf,↓ops_opt,↓ops_grd,↓ops_call,↓ops_calld,↓ops_callc,stp_some,grd_tt,grd_ff,grd_tf,grd_ft,grd_u,cnd_t,cnd_f,cnd_any,↓reduceIte,↓then_n,↓then_x,↓then_r,↓cont_out,↓ev_t,↓ev_c,↓evs_nil,↓evs_cons,↓parts_nil,↓parts_cons,Env.put,↓set_at,stepO,lenV,binV,binInt,unV,loadV,sliceV,boundOf,convV,slstrV,List.map_cons,List.map_nil,Option.map_some,Option.bind_some,if_pos,if_neg,wr_i64,w64',w32',w8',Int.reduceToNat,Nat.reducePow,mins',mins32,or64n,or32n,or_high,V.cells,V.isCell,V.boxable,List.all_cons,List.all_nil,List.getElem?_cons_zero,List.getElem?_cons_succ,List.set_cons_zero,List.set_cons_succ,Nat.reduceEqDiff,reduceCtorEq,Bool.not_true,Bool.not_false,Bool.false_eq_true,↓done0,↓done0n,↓done1,↓done2,↓done3,↓done4,↓done_l,↓done_lm,↓done_lll,onSome_some,Option.isNone_some,Option.isNone_none,Option.isSome_some,Option.isSome_none,true_and,and_true,false_and,and_false,reduceIte,false_imp_iff,true_imp_iff,Bool.and_false,Bool.and_true,Bool.or_true,Bool.or_false,Bool.true_and,Bool.false_and,Bool.true_or,Bool.false_or,decide_eq_true,decide_eq_false,ibeq_t,ibeq_f,ibne_t,ibne_f,beq_self_eq_true,ite_self,Nat.zero_add,Nat.add_zero,Nat.mul_one,toNat_c,add_c,add_one_c,List.nil_append,List.cons_append,enterEnv,List.getD_cons_zero,List.getD_cons_succ,List.getD_nil,List.length_nil,List.length_cons,List.length_append,List.length_map,List.isEmpty_nil,List.isEmpty_cons,e3,e6,e7]
      exact gives_eq rfl rfl
    · have hall' : allR (joinB ts) = .tup [.sl false ts'.flatten ts'.length, .int .i64 0, .int .i64 0] := by
        rw [allR, if_neg hlong, hj1, bad_encs js hj2, rn_encs js hj2, hlex']
      rw [hall'] at h5'
      refine calP_ro (str_ro _) h5' (live_ro3 _ _ m5) ?_
      simp -implicitDefEqProofs (disch := omega) only [↓go_skip,↓go_regf,↓go_regt,↓go_seq,↓go_block,↓go_exit,↓go_ret,↓go_cond,↓go_range,↓cnd_t,↓cnd_f,↓out_nil,↓out_seq,↓out_seqx,↓out_seqr,↓out_blk,↓out_blkr,↓out_blkx,↓ops_nil,↓ops_opf,↓ops_opt,↓ops_grd,↓ops_call,↓ops_calld,↓ops_callc,stp_some,grd_tt,grd_ff,grd_tf,grd_ft,grd_u,cnd_t,cnd_f,cnd_any,↓reduceIte,↓then_n,↓then_x,↓then_r,↓cont_out,↓ev_t,↓ev_c,↓evs_nil,↓evs_cons,↓parts_nil,↓parts_cons,Env.put,↓set_at,stepO,lenV,binV,binInt,unV,loadV,sliceV,boundOf,convV,slstrV,List.map_cons,List.map_nil,Option.map_some,Option.bind_some,if_pos,if_neg,wr_i64,w64',w32',w8',Int.reduceToNat,Nat.reducePow,mins',mins32,or64n,or32n,or_high,V.cells,V.isCell,V.boxable,List.all_cons,List.all_nil,List.getElem?_cons_zero,List.getElem?_cons_succ,List.set_cons_zero,List.set_cons_succ,Nat.reduceEqDiff,reduceCtorEq,Bool.not_true,Bool.not_false,Bool.false_eq_true,↓done0,↓done0n,↓done1,↓done2,↓done3,↓done4,↓done_l,↓done_lm,↓done_lll,onSome_some,Option.isNone_some,Option.isNone_none,Option.isSome_some,Option.isSome_none,true_and,and_true,false_and,and_false,reduceIte,false_imp_iff,true_imp_iff,Bool.and_false,Bool.and_true,Bool.or_true,Bool.or_false,Bool.true_and,Bool.false_and,Bool.true_or,Bool.false_or,decide_eq_true,decide_eq_false,ibeq_t,ibeq_f,ibne_t,ibne_f,beq_self_eq_true,ite_self,Nat.zero_add,Nat.add_zero,Nat.mul_one,toNat_c,add_c,add_one_c,List.nil_append,List.cons_append,enterEnv,List.getD_cons_zero,List.getD_cons_succ,List.getD_nil,List.length_nil,List.length_cons,List.length_append,List.length_map,List.isEmpty_nil,List.isEmpty_cons,e3,e6,e7]
      refine go_loop (fun k e H => H = [] ∧ ∃ A Z A' Z', ts = A ++ Z ∧ ts' = A' ++ Z' ∧ A.length = A'.length ∧ Mats Z Z' ∧ k = Z.length ∧ e 3 = .sl false ts.flatten ts.length ∧ e 8 = .sl false ts'.flatten ts'.length ∧ e 11 = .int .i64 (A.length : Nat))
        ts.length ⟨rfl, [], ts, [], ts', rfl, rfl, rfl, hmats, rfl, ?_, ?_, ?_⟩ ?_
      · simp [Env.set, e3]
      · simp [Env.set]
      · simp [Env.set]
      clear e3 e6 e7 hAl hA5
      rintro k e H ⟨rfl, A, Z, A', Z', hAZ, hAZ', hAA, hZ, rfl, e3, e8, e11⟩
      have hAl : ts.length = A.length + Z.length := by rw [hAZ]; simp
      have hAl' : ts'.length = A.length + Z'.length := by rw [hAZ', hAA]; simp
      have hA5 : ∀ x ∈ A, x.length = 5 := fun x hx => m2 x (by rw [hAZ]; exact List.mem_append_left _ hx)
      have hA5' : ∀ x ∈ A', x.length = 5 := fun x hx => m3 x (by rw [hAZ']; exact List.mem_append_left _ hx)
      cases hZ with
      | nil =>
        simp only [List.length_nil,Nat.add_zero] at hAl
        simp -implicitDefEqProofs (disch := omega) only [↓go_skip,↓go_regf,↓go_regt,↓go_seq,↓go_block,↓go_exit,↓go_ret,↓go_cond,↓go_range,↓cnd_t,↓cnd_f,↓out_nil,↓out_seq,↓out_seqx,↓out_seqr,↓out_blk,↓out_blkr,↓out_blkx,↓ops_nil,↓ops_opf,↓ops_opt,↓ops_grd,↓ops_call,↓ops_calld,↓ops_callc,stp_some,grd_tt,grd_ff,grd_tf,grd_ft,grd_u,cnd_t,cnd_f,cnd_any,↓reduceIte,↓then_n,↓then_x,↓then_r,↓cont_out,↓ev_t,↓ev_c,↓evs_nil,↓evs_cons,↓parts_nil,↓parts_cons,Env.put,↓set_at,stepO,lenV,binV,binInt,unV,loadV,sliceV,boundOf,convV,slstrV,List.map_cons,List.map_nil,Option.map_some,Option.bind_some,if_pos,if_neg,wr_i64,w64',w32',w8',Int.reduceToNat,Nat.reducePow,mins',mins32,or64n,or32n,or_high,V.cells,V.isCell,V.boxable,List.all_cons,List.all_nil,List.getElem?_cons_zero,List.getElem?_cons_succ,List.set_cons_zero,List.set_cons_succ,Nat.reduceEqDiff,reduceCtorEq,Bool.not_true,Bool.not_false,Bool.false_eq_true,↓done0,↓done0n,↓done1,↓done2,↓done3,↓done4,↓done_l,↓done_lm,↓done_lll,onSome_some,Option.isNone_some,Option.isNone_none,Option.isSome_some,Option.isSome_none,true_and,and_true,false_and,and_false,reduceIte,false_imp_iff,true_imp_iff,Bool.and_false,Bool.and_true,Bool.or_true,Bool.or_false,Bool.true_and,Bool.false_and,Bool.true_or,Bool.false_or,decide_eq_true,decide_eq_false,ibeq_t,ibeq_f,ibne_t,ibne_f,beq_self_eq_true,ite_self,Nat.zero_add,Nat.add_zero,Nat.mul_one,toNat_c,add_c,add_one_c,List.nil_append,List.cons_append,enterEnv,List.getD_cons_zero,List.getD_cons_succ,List.getD_nil,List.length_nil,List.length_cons,List.length_append,List.length_map,List.isEmpty_nil,List.isEmpty_cons,e3,e8,e11,hAl]
        refine calP_ro rfl good6 rfl ?_
        simp -implicitDefEqProofs (disch := omega) only [↓go_skip,↓go_regf,↓go_regt,↓go_seq,↓go_block,↓go_exit,↓go_ret,↓go_cond,↓go_range,↓cnd_t,↓cnd_f,↓out_nil,↓out_seq,↓out_seqx,↓out_seqr,↓out_blk,↓out_blkr,↓out_blkx,↓ops_nil,↓ops_opf,↓ops_opt,↓ops_grd,↓ops_call,↓ops_calld,↓ops_callc,stp_some,grd_tt,grd_ff,grd_tf,grd_ft,grd_u,cnd_t,cnd_f,cnd_any,↓reduceIte,↓then_n,↓then_x,↓then_r,↓cont_out,↓ev_t,↓ev_c,↓evs_nil,↓evs_cons,↓parts_nil,↓parts_cons,Env.put,↓set_at,stepO,lenV,binV,binInt,unV,loadV,sliceV,boundOf,convV,slstrV,List.map_cons,List.map_nil,Option.map_some,Option.bind_some,if_pos,if_neg,wr_i64,w64',w32',w8',Int.reduceToNat,Nat.reducePow,mins',mins32,or64n,or32n,or_high,V.cells,V.isCell,V.boxable,List.all_cons,List.all_nil,List.getElem?_cons_zero,List.getElem?_cons_succ,List.set_cons_zero,List.set_cons_succ,Nat.reduceEqDiff,reduceCtorEq,Bool.not_true,Bool.not_false,Bool.false_eq_true,↓done0,↓done0n,↓done1,↓done2,↓done3,↓done4,↓done_l,↓done_lm,↓done_lll,onSome_some,Option.isNone_some,Option.isNone_none,Option.isSome_some,Option.isSome_none,true_and,and_true,false_and,and_false,reduceIte,false_imp_iff,true_imp_iff,Bool.and_false,Bool.and_true,Bool.or_true,Bool.or_false,Bool.true_and,Bool.false_and,Bool.true_or,Bool.false_or,decide_eq_true,decide_eq_false,ibeq_t,ibeq_f,ibne_t,ibne_f,beq_self_eq_true,ite_self,Nat.zero_add,Nat.add_zero,Nat.mul_one,toNat_c,add_c,add_one_c,List.nil_append,List.cons_append,enterEnv,List.getD_cons_zero,List.getD_cons_succ,List.getD_nil,List.length_nil,List.length_cons,List.length_append,List.length_map,List.isEmpty_nil,List.isEmpty_cons,e3,e8,e11]
        exact gives_eq rfl rfl
      | cons hm hZ =>
        rename_i t t' Z Z'
        obtain ⟨kind, text, i1, i2, a1, a2, rfl, rfl, harr⟩ := hm
        simp only [List.length_cons] at hAl hAl'
        have k1 : ts.flatten[A.length * 5]? = some (.int .u8 (kind : Nat)) := by
          rw [hAZ, ← Nat.add_zero (A.length * 5), flat5_at hA5 rfl (by decide)]; rfl
        have k2 : ts'.flatten[A.length * 5]? = some (.int .u8 (kind : Nat)) := by
          rw [hAZ', hAA, ← Nat.add_zero (A'.length * 5), flat5_at hA5' rfl (by decide)]; rfl
        have t1 : ts.flatten[A.length * 5 + 1]? = some (.str text) := by
          rw [hAZ, flat5_at hA5 rfl (by decide)]; rfl
        have t2 : ts'.flatten[A.length * 5 + 1]? = some (.str text) := by
          rw [hAZ', hAA, flat5_at hA5' rfl (by decide)]; rfl
        have x1 : (ts.flatten.drop (A.length * 5 + 3)).take 2 = [a1, a2] := by
          rw [hAZ]; exact flat5_two hA5
        have x2 : (ts'.flatten.drop (A.length * 5 + 3)).take 2 = [a1, a2] := by
          rw [hAZ', hAA]; exact flat5_two hA5'
        have hfl := flat_len ts m2
        have hfl' := flat_len ts' m3
        obtain ⟨r1, r2⟩ := arr_ro harr
        obtain ⟨ea, eb, sh, its, ha1, ha2, hsh, hits, hsi⟩ := harr
        have h7 := good7 ea eb sh its hsh hits hsi
        rw [← ha1, ← ha2] at h7
        clear ha1 ha2
        simp -implicitDefEqProofs (disch := omega) only [↓go_skip,↓go_regf,↓go_regt,↓go_seq,↓go_block,↓go_exit,↓go_ret,↓go_cond,↓go_range,↓cnd_t,↓cnd_f,↓out_nil,↓out_seq,↓out_seqx,↓out_seqr,↓out_blk,↓out_blkr,↓out_blkx,↓ops_nil,↓ops_opf,↓ops_opt,↓ops_grd,↓ops_call,↓ops_calld,↓ops_callc,stp_some,grd_tt,grd_ff,grd_tf,grd_ft,grd_u,cnd_t,cnd_f,cnd_any,↓reduceIte,↓then_n,↓then_x,↓then_r,↓cont_out,↓ev_t,↓ev_c,↓evs_nil,↓evs_cons,↓parts_nil,↓parts_cons,Env.put,↓set_at,stepO,lenV,binV,binInt,unV,loadV,sliceV,boundOf,convV,slstrV,List.map_cons,List.map_nil,Option.map_some,Option.bind_some,if_pos,if_neg,wr_i64,w64',w32',w8',Int.reduceToNat,Nat.reducePow,mins',mins32,or64n,or32n,or_high,V.cells,V.isCell,V.boxable,List.all_cons,List.all_nil,List.getElem?_cons_zero,List.getElem?_cons_succ,List.set_cons_zero,List.set_cons_succ,Nat.reduceEqDiff,reduceCtorEq,Bool.not_true,Bool.not_false,Bool.false_eq_true,↓done0,↓done0n,↓done1,↓done2,↓done3,↓done4,↓done_l,↓done_lm,↓done_lll,onSome_some,Option.isNone_some,Option.isNone_none,Option.isSome_some,Option.isSome_none,true_and,and_true,false_and,and_false,reduceIte,false_imp_iff,true_imp_iff,Bool.and_false,Bool.and_true,Bool.or_true,Bool.or_false,Bool.true_and,Bool.false_and,Bool.true_or,Bool.false_or,decide_eq_true,decide_eq_false,ibeq_t,ibeq_f,ibne_t,ibne_f,beq_self_eq_true,ite_self,Nat.zero_add,Nat.add_zero,Nat.mul_one,toNat_c,add_c,add_one_c,List.nil_append,List.cons_append,enterEnv,List.getD_cons_zero,List.getD_cons_succ,List.getD_nil,List.length_nil,List.length_cons,List.length_append,List.length_map,List.isEmpty_nil,List.isEmpty_cons,e3,e8,e11,k1,k2,t1,t2,x1,x2,hfl,hfl',binStr]
        refine calP_ro (by simp [roL, V.ro, r1, r2]) h7 rfl ?_
        simp -implicitDefEqProofs (disch := omega) only [↓go_skip,↓go_regf,↓go_regt,↓go_seq,↓go_block,↓go_exit,↓go_ret,↓go_cond,↓go_range,↓cnd_t,↓cnd_f,↓out_nil,↓out_seq,↓out_seqx,↓out_seqr,↓out_blk,↓out_blkr,↓out_blkx,↓ops_nil,↓ops_opf,↓ops_opt,↓ops_grd,↓ops_call,↓ops_calld,↓ops_callc,stp_some,grd_tt,grd_ff,grd_tf,grd_ft,grd_u,cnd_t,cnd_f,cnd_any,↓reduceIte,↓then_n,↓then_x,↓then_r,↓cont_out,↓ev_t,↓ev_c,↓evs_nil,↓evs_cons,↓parts_nil,↓parts_cons,Env.put,↓set_at,stepO,lenV,binV,binInt,unV,loadV,sliceV,boundOf,convV,slstrV,List.map_cons,List.map_nil,Option.map_some,Option.bind_some,if_pos,if_neg,wr_i64,w64',w32',w8',Int.reduceToNat,Nat.reducePow,mins',mins32,or64n,or32n,or_high,V.cells,V.isCell,V.boxable,List.all_cons,List.all_nil,List.getElem?_cons_zero,List.getElem?_cons_succ,List.set_cons_zero,List.set_cons_succ,Nat.reduceEqDiff,reduceCtorEq,Bool.not_true,Bool.not_false,Bool.false_eq_true,↓done0,↓done0n,↓done1,↓done2,↓done3,↓done4,↓done_l,↓done_lm,↓done_lll,onSome_some,Option.isNone_some,Option.isNone_none,Option.isSome_some,Option.isSome_none,true_and,and_true,false_and,and_false,reduceIte,false_imp_iff,true_imp_iff,Bool.and_false,Bool.and_true,Bool.or_true,Bool.or_false,Bool.true_and,Bool.false_and,Bool.true_or,Bool.false_or,decide_eq_true,decide_eq_false,ibeq_t,ibeq_f,ibne_t,ibne_f,beq_self_eq_true,ite_self,Nat.zero_add,Nat.add_zero,Nat.mul_one,toNat_c,add_c,add_one_c,List.nil_append,List.cons_append,enterEnv,List.getD_cons_zero,List.getD_cons_succ,List.getD_nil,List.length_nil,List.length_cons,List.length_append,List.length_map,List.isEmpty_nil,List.isEmpty_cons,e3,e8,e11]
        exact ⟨Z.length, by simp, A ++ [tokC kind text i1 a1 a2], Z, A' ++ [tokC kind text i2 a1 a2], Z', by rw [hAZ]; simp, by rw [hAZ']; simp, by simp [hAA], hZ, rfl, by simp⟩
end Fe
