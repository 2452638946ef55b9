/-
  Contracts; contracts; contracts; contracts; contracts. No condition.
-/
import Derived.Test.YtjgjfabmakkooaaFjA
set_option linter.unusedSimpArgs false
set_option linter.unusedVariables false
open Go Go.Proofs
namespace Fe
def b35 : C :=
 (.seq
 (.region false [
 oQ 4 (.mov (.t 0)),
 oQ 5 (.len false (.t 4)),
 oQ 6 (.bin 0 .sub (.t 5) (.c (.int .i64 1))),
 oQ 2 (.mov (.c (.int .i64 0))),
 oQ 3 (.mov (.t 6))])
 (.block 0
 (.loop
 (.seq
 (.seq
 (.region false [
 oQ 7 (.mov (.t 2)),
 oQ 8 (.mov (.t 3)),
 oQ 9 (.bin 0 .lss (.t 7) (.t 8))])
 (.cond (.t 9)
 .skip
 (.exit 0)))
 (.seq
 (.block 1
 (.region true [
 oQ 14 (.mov (.t 0)),
 oQ 15 (.mov (.t 2)),
 oQ 16 (.mov (.t 0)),
 oQ 17 (.mov (.t 3)),
 oQ 18 (.mov (.t 0)),
 oQ 19 (.mov (.t 3)),
 oQ 20 (.iaddr 1 (.t 18) (.t 19)),
 oQ 21 (.load false 1 (.t 20)),
 oQ 22 (.mov (.t 0)),
 oQ 23 (.mov (.t 2)),
 oQ 24 (.iaddr 1 (.t 22) (.t 23)),
 oQ 25 (.load false 1 (.t 24)),
 oQ 26 (.iaddr 1 (.t 14) (.t 15)),
 ⟨none, .op (.store 1 (.t 26) (.t 21)), none⟩,
 oQ 27 (.iaddr 1 (.t 16) (.t 17)),
 ⟨none, .op (.store 1 (.t 27) (.t 25)), none⟩]))
 (.region false [
 oQ 10 (.mov (.t 2)),
 oQ 11 (.bin 0 .add (.t 10) (.c (.int .i64 1))),
 oQ 12 (.mov (.t 3)),
 oQ 13 (.bin 0 .sub (.t 12) (.c (.int .i64 1))),
 oQ 2 (.mov (.t 11)),
 oQ 3 (.mov (.t 13))]))))))
def c35 : CF := ⟨28, 1, [], b35⟩
def b62 : C :=
 (.seq
 (.region false [
 oQ 2 (.mov (.c (.int .i64 0)))])
 (.seq
 (.region false [
 oQ 3 (.mov (.t 0)),
 ⟨some 4, .call false (.c (.fn 36 [] [])) [.t 3], none⟩,
 oQ 0 (.mov (.t 4))])
 (.seq
 (.seq
 (.region false [
 oQ 5 (.mov (.t 0)),
 oQ 6 (.len false (.t 5)),
 oQ 7 (.bin 0 .eql (.t 6) (.c (.int .i64 0)))])
 (.cond (.t 7)
 (.seq
 (.region false [
 oQ 2 (.mov (.c (.int .i64 0)))])
 .ret)
 .skip))
 (.seq
 (.region false [
 oQ 8 (.mov (.t 0)),
 oQ 9 (.len false (.t 8)),
 oQ 10 (.bin 0 .mul (.c (.int .i64 32)) (.t 9)),
 oQ 11 (.mov (.t 0)),
 oQ 12 (.mov (.t 0)),
 oQ 13 (.len false (.t 12)),
 oQ 14 (.bin 0 .sub (.t 13) (.c (.int .i64 1))),
 oQ 15 (.iaddr 1 (.t 11) (.t 14)),
 oQ 16 (.load false 1 (.t 15)),
 ⟨some 17, .call false (.c (.fn 64 [] [])) [.t 16], none⟩,
 oQ 18 (.bin 0 .sub (.t 10) (.t 17)),
 oQ 2 (.mov (.t 18))])
 .ret))))
def c62 : CF := ⟨19, 1, [.mov (.t 2)], b62⟩
def b63 : C :=
 (.seq
 (.region false [
 oQ 1 (.box (.t 0)),
 oQ 2 (.mov (.c .nilf))])
 (.seq
 (.region false [
 oQ 3 (.mkfn 81 [] [.t 1]),
 oQ 2 (.mov (.t 3))])
 .ret))
def c63 : CF := ⟨4, 1, [.mov (.t 2)], b63⟩
def b81 : C :=
 (.seq
 (.region false [
 oQ 4 (.load false 1 (.t 1)),
 oQ 5 (.len false (.t 4)),
 oQ 6 (.bin 0 .sub (.t 5) (.c (.int .i64 1))),
 oQ 3 (.mov (.t 6))])
 (.block 0
 (.loop
 (.seq
 (.seq
 (.region false [
 oQ 7 (.mov (.t 3)),
 oQ 8 (.bin 0 .geq (.t 7) (.c (.int .i64 0)))])
 (.cond (.t 8)
 .skip
 (.exit 0)))
 (.seq
 (.block 1
 (.seq
 (.region false [
 oQ 11 (.mov (.t 0)),
 oQ 12 (.mov (.t 3)),
 oQ 13 (.load false 1 (.t 1)),
 oQ 14 (.mov (.t 3)),
 oQ 15 (.iaddr 1 (.t 13) (.t 14)),
 oQ 16 (.load false 1 (.t 15)),
 ⟨some 17, .call false (.t 11) [.t 12, .t 16], none⟩,
 oQ 18 (.un .not (.t 17))])
 (.cond (.t 18)
 .ret
 .skip)))
 (.region false [
 oQ 9 (.mov (.t 3)),
 oQ 10 (.bin 0 .sub (.t 9) (.c (.int .i64 1))),
 oQ 3 (.mov (.t 10))]))))))
def c81 : CF := ⟨19, 1, [], b81⟩
def r34_0 : C :=
 .region false [
 oQ 6 (.mov (.t 14))]
def r34_1 : C :=
 (.block 1
 (.region false [
 oQ 15 (.load false 1 (.t 4)),
 oQ 16 (.bin 0 .shl (.t 15) (.c (.int .u64 32))),
 oQ 17 (.mov (.t 6)),
 oQ 18 (.conv (.int .i64) (.t 17)),
 oQ 19 (.bin 0 .or (.t 16) (.t 18)),
 ⟨none, .op (.store 1 (.t 4) (.t 19)), none⟩]))
def b34 : C :=
 (.seq
 (.region false [
 oQ 2 (.mov (.c (.int .i64 0))),
 oQ 3 (.mov (.c (.bool false)))])
 (.seq
 (.seq
 (.region false [
 oQ 7 (.mov (.t 0)),
 ⟨some 8, .call false (.c (.fn 62 [] [])) [.t 7], none⟩,
 oQ 9 (.bin 0 .gtr (.t 8) (.c (.int .i64 63)))])
 (.cond (.t 9)
 (.seq
 (.region false [
 oQ 2 (.mov (.c (.int .i64 0))),
 oQ 3 (.mov (.c (.bool false)))])
 .ret)
 .skip))
 (.seq
 (.region false [
 oQ 4 (.box (.c (.int .i64 0))),
 ⟨none, .op (.store 1 (.t 4) (.c (.int .i64 0))), none⟩])
 (.seq
 (.seq
 (.region false [
 oQ 10 (.mov (.t 0)),
 ⟨some 11, .call false (.c (.fn 36 [] [])) [.t 10], none⟩,
 ⟨some 12, .call false (.c (.fn 63 [] [])) [.t 11], none⟩])
 (.block 0
 (.rangef (.t 12) [13, 14] r34_0 r34_1)))
 (.seq
 (.region false [
 oQ 20 (.load false 1 (.t 4)),
 oQ 2 (.mov (.t 20)),
 oQ 3 (.mov (.c (.bool true)))])
 .ret)))))
def c34 : CF := ⟨21, 1, [.mov (.t 2), .mov (.t 3)], b34⟩
def b16 : C :=
 (.seq
 (.region false [
 oQ 2 (.mov (.c (.str [])))])
 (.seq
 (.region false [
 oQ 3 (.mov (.c (.sl true [] 0)))])
 (.seq
 (.seq
 (.region false [
 oQ 8 (.mov (.t 0)),
 ⟨some 9, .call false (.c (.fn 32 [] [])) [.t 8], none⟩,
 oQ 0 (.mov (.t 9))])
 (.block 0
 (.loop
 (.seq
 (.seq
 (.region false [
 oQ 10 (.mov (.t 0)),
 oQ 11 (.len false (.t 10)),
 oQ 12 (.bin 0 .gtr (.t 11) (.c (.int .i64 0)))])
 (.cond (.t 12)
 .skip
 (.exit 0)))
 (.block 1
 (.seq
 (.region false [
 oQ 14 (.mov (.t 0)),
 ⟨some 15, .call false (.c (.fn 33 [] [])) [.t 14, .c (.int .u32 1000000000)], none⟩,
 oQ 13 (.mov (.t 15)),
 oQ 16 (.extract (.t 13) 0),
 oQ 17 (.extract (.t 13) 1),
 oQ 4 (.mov (.t 16)),
 oQ 5 (.mov (.t 17))])
 (.seq
 (.region false [
 oQ 19 (.mov (.t 5)),
 ⟨some 20, .call false (.c (.fn 34 [] [])) [.t 19], none⟩,
 oQ 18 (.mov (.t 20)),
 oQ 21 (.extract (.t 18) 0),
 oQ 22 (.extract (.t 18) 1),
 oQ 6 (.mov (.t 21)),
 oQ 7 (.mov (.t 22))])
 (.seq
 (.seq
 (.region false [
 oQ 23 (.mov (.c (.int .i64 0)))])
 (.block 2
 (.loop
 (.seq
 (.region false [
 oQ 24 (.bin 0 .lss (.t 23) (.c (.int .i64 9)))])
 (.seq
 (.cond (.t 24)
 .skip
 (.exit 2))
 (.seq
 (.block 3
 (.seq
 (.region false [
 oQ 25 (.mov (.t 3)),
 oQ 26 (.mov (.t 6)),
 oQ 27 (.bin 0 .rem (.t 26) (.c (.int .i64 10))),
 oQ 28 (.bin 0 .add (.c (.int .i64 48)) (.t 27)),
 oQ 29 (.conv (.int .u8) (.t 28)),
 oQ 30 (.mksl [.int .u8 0] 1 [(0, (1, .t 29))]),
 oQ 31 (.append 1 1 (.t 25) (.t 30)),
 oQ 3 (.mov (.t 31))])
 (.region false [
 oQ 32 (.mov (.t 6)),
 oQ 33 (.bin 0 .quo (.t 32) (.c (.int .i64 10))),
 oQ 6 (.mov (.t 33))])))
 (.region false [
 oQ 34 (.bin 0 .add (.t 23) (.c (.int .i64 1))),
 oQ 23 (.mov (.t 34))])))))))
 (.region false [
 oQ 35 (.mov (.t 4)),
 oQ 0 (.mov (.t 35))])))))))))
 (.seq
 (.block 4
 (.loop
 (.seq
 (.seq
 (.region false [
 oQ 36 (.mov (.t 3)),
 oQ 37 (.len false (.t 36)),
 oQ 38 (.bin 0 .gtr (.t 37) (.c (.int .i64 1))),
 oQ 39 (.mov (.t 38)),
 ⟨some 40, .op (.mov (.t 3)), some (39, true)⟩,
 ⟨some 41, .op (.mov (.t 3)), some (39, true)⟩,
 ⟨some 42, .op (.len false (.t 41)), some (39, true)⟩,
 ⟨some 43, .op (.bin 0 .sub (.t 42) (.c (.int .i64 1))), some (39, true)⟩,
 ⟨some 44, .op (.iaddr 1 (.t 40) (.t 43)), some (39, true)⟩,
 ⟨some 45, .op (.load false 1 (.t 44)), some (39, true)⟩,
 ⟨some 46, .op (.bin 0 .eql (.t 45) (.c (.int .u8 48))), some (39, true)⟩,
 oQ 47 (.pick (.t 39) (.t 46) (.c (.bool false)))])
 (.cond (.t 47)
 .skip
 (.exit 4)))
 (.block 5
 (.region false [
 oQ 48 (.mov (.t 3)),
 oQ 49 (.mov (.t 3)),
 oQ 50 (.len false (.t 49)),
 oQ 51 (.bin 0 .sub (.t 50) (.c (.int .i64 1))),
 oQ 52 (.slice 1 (.t 48) none (some (.t 51)) none),
 oQ 3 (.mov (.t 52))])))))
 (.seq
 (.seq
 (.region false [
 oQ 53 (.mov (.t 3)),
 oQ 54 (.len false (.t 53)),
 oQ 55 (.bin 0 .eql (.t 54) (.c (.int .i64 0)))])
 (.cond (.t 55)
 (.seq
 (.region false [
 oQ 2 (.mov (.c (.str [48])))])
 .ret)
 .skip))
 (.seq
 (.region false [
 oQ 56 (.mov (.t 3)),
 ⟨some 57, .call false (.c (.fn 35 [] [])) [.t 56], none⟩])
 (.seq
 (.region false [
 oQ 58 (.mov (.t 3)),
 oQ 59 (.conv .bytesStr (.t 58)),
 oQ 2 (.mov (.t 59))])
 .ret)))))))
def c16 : CF := ⟨60, 1, [.mov (.t 2)], b16⟩
theorem s35 : stripF Go.Proofs.Try.prog 35 = some c35 := by kernel_rfl
theorem s62 : stripF Go.Proofs.Try.prog 62 = some c62 := by kernel_rfl
theorem s63 : stripF Go.Proofs.Try.prog 63 = some c63 := by kernel_rfl
theorem s81 : stripF Go.Proofs.Try.prog 81 = some c81 := by kernel_rfl
theorem s34 : stripF Go.Proofs.Try.prog 34 = some c34 := by kernel_rfl
theorem s16 : stripF Go.Proofs.Try.prog 16 = some c16 := by kernel_rfl

/-! ### slices.Reverse of bytes -/
theorem bsl_len (l : List UInt8) : (bsl l).length = l.length := by simp [bsl]
theorem bsl_put (A Z : List UInt8) (x y : UInt8) {i : Nat} (h : A.length = i) : splice (bsl (A ++ x :: Z)) i [.int .u8 y.toNat] = bsl (A ++ y :: Z) := by
  subst h
  simp [splice, bsl, List.drop_append]
theorem call35 (H : Heap) (k g : Nat) (l Z : List UInt8) (K : V → Heap → Prop) (hH : H[k]? = some (.cells g 1 true (bsl (l ++ Z)))) (hl : l.length ≤ 1000000000)
    (hK : K (.tup []) (H.set k (.cells g 1 true (bsl (l.reverse ++ Z))))) : Call2 Go.Proofs.Try.prog 35 [.view k g 0 l.length] H K := by
  have hkl : k < H.length := getElem?_lt hH
  refine call2_go mix s35 (Nat.le_of_ble_eq_true rfl) fun e he => ?_
  have e0 : e 0 = .view k g 0 l.length := he 0
  clear he
  simp only [c35,b35, oQ]
  simp -implicitDefEqProofs (disch := omega) only [↓ZD,ZP,cnd_t,cnd_f,↓reduceIte,Env.put,stepO,lenV,binV,binInt,unV,loadV,sliceV,boundOf,convV,slstrV,if_pos,if_neg,Int.reduceToNat,Nat.reducePow,V.cells,V.isCell,V.boxable,Nat.reduceEqDiff,reduceCtorEq,reduceIte,ite_self,enterEnv,e0]
  refine go_loop (fun m e H' => ∃ X M Y, l = X ++ M ++ Y ∧ X.length = Y.length ∧ m = M.length ∧ H' = H.set k (.cells g 1 true (bsl (Y.reverse ++ M ++ X.reverse ++ Z))) ∧ e 0 = .view k g 0 l.length ∧
    e 2 = .int .i64 (X.length : Nat) ∧ e 3 = .int .i64 ((X.length : Int) + M.length - 1)) l.length ⟨[], l, [], by simp, rfl, rfl, ?_, ?_, ?_, ?_⟩ ?_
  · simp only [List.reverse_nil,List.append_nil,List.nil_append]; exact (set_same hH).symm
  · simp [Env.set, e0]
  · simp [Env.set]
  · simp [Env.set]
  clear e0
  rintro m e H' ⟨X, M, Y, hlX, hXY, rfl, rfl, e0, e2, e3⟩
  have hll : l.length = X.length + M.length + Y.length := by rw [hlX]; simp; omega
  rcases Nat.lt_or_ge M.length 2 with hlt | hge
  · have hrev : Y.reverse ++ M ++ X.reverse = l.reverse := by
      have : M.reverse = M := by
        match M, hlt with
        | [], _ => rfl
        | [a], _ => rfl
      rw [hlX, List.reverse_append, List.reverse_append, this, List.append_assoc]
    rw [hrev]
    simp -implicitDefEqProofs (disch := omega) only [↓ZD,ZP,cnd_t,cnd_f,↓reduceIte,Env.put,stepO,lenV,binV,binInt,unV,loadV,sliceV,boundOf,convV,slstrV,if_pos,if_neg,Int.reduceToNat,Nat.reducePow,V.cells,V.isCell,V.boxable,Nat.reduceEqDiff,reduceCtorEq,reduceIte,ite_self,enterEnv,e0,e2,e3]
    exact hK
  · obtain ⟨a, M', b, rfl⟩ : ∃ a M' b, M = a :: (M' ++ [b]) := by
      match M, hge with
      | a :: c :: r, _ => exact ⟨a, (c :: r).dropLast, (c :: r).getLast (by simp), by rw [List.dropLast_concat_getLast]⟩
    simp only [List.length_cons,List.length_append,List.length_nil,Nat.zero_add] at hll e3
    have e3' : e 3 = .int .i64 ((X.length + M'.length + 1 : Nat) : Int) := by rw [e3]; congr 1; omega
    clear e3
    have a1 : Y.reverse ++ a :: (M' ++ [b]) ++ X.reverse ++ Z = Y.reverse ++ a :: (M' ++ b :: (X.reverse ++ Z)) := by simp
    have a2 : Y.reverse ++ a :: (M' ++ b :: (X.reverse ++ Z)) = (Y.reverse ++ a :: M') ++ b :: (X.reverse ++ Z) := by simp
    have a3 : Y.reverse ++ b :: (M' ++ b :: (X.reverse ++ Z)) = (Y.reverse ++ b :: M') ++ b :: (X.reverse ++ Z) := by simp
    have a4 : (Y.reverse ++ b :: M') ++ a :: (X.reverse ++ Z) = (b :: Y).reverse ++ M' ++ (X ++ [a]).reverse ++ Z := by simp
    rw [a1]
    have g1 : (bsl (Y.reverse ++ a :: (M' ++ b :: (X.reverse ++ Z))))[X.length]? = some (.int .u8 a.toNat) := bsl_at _ _ _ (by rw [List.length_reverse, hXY])
    have g2 : (bsl (Y.reverse ++ a :: (M' ++ b :: (X.reverse ++ Z))))[X.length + M'.length + 1]? = some (.int .u8 b.toNat) := by
      rw [a2]; exact bsl_at _ _ _ (by simp; omega)
    have p1 : splice (bsl (Y.reverse ++ a :: (M' ++ b :: (X.reverse ++ Z)))) X.length [.int .u8 b.toNat] = bsl (Y.reverse ++ b :: (M' ++ b :: (X.reverse ++ Z))) := bsl_put _ _ _ _ (by rw [List.length_reverse, hXY])
    have p2 : splice (bsl (Y.reverse ++ b :: (M' ++ b :: (X.reverse ++ Z)))) (X.length + M'.length + 1) [.int .u8 a.toNat] = bsl ((Y.reverse ++ b :: M') ++ a :: (X.reverse ++ Z)) := by
      rw [a3]; exact bsl_put _ _ _ _ (by simp; omega)
    have l1 : (bsl (Y.reverse ++ a :: (M' ++ b :: (X.reverse ++ Z)))).length = X.length + M'.length + 2 + X.length + Z.length := by rw [bsl_len]; simp; omega
    have l2 : (bsl (Y.reverse ++ b :: (M' ++ b :: (X.reverse ++ Z)))).length = X.length + M'.length + 2 + X.length + Z.length := by rw [bsl_len]; simp; omega
    have hget := List.getElem?_set_self (a := HObj.cells g 1 true (bsl (Y.reverse ++ a :: (M' ++ b :: (X.reverse ++ Z))))) hkl
    have hget2 := List.getElem?_set_self (a := HObj.cells g 1 true (bsl (Y.reverse ++ b :: (M' ++ b :: (X.reverse ++ Z))))) hkl
    generalize a.toNat = an at *
    generalize b.toNat = bn at *
    generalize bsl (Y.reverse ++ a :: (M' ++ b :: (X.reverse ++ Z))) = C1 at *
    generalize bsl (Y.reverse ++ b :: (M' ++ b :: (X.reverse ++ Z))) = C2 at *
    simp -implicitDefEqProofs (disch := omega) only [↓ZD,ZP,cnd_t,cnd_f,↓reduceIte,Env.put,stepO,lenV,binV,binInt,unV,loadV,sliceV,boundOf,convV,slstrV,if_pos,if_neg,Int.reduceToNat,Nat.reducePow,V.cells,V.isCell,V.boxable,Nat.reduceEqDiff,reduceCtorEq,reduceIte,ite_self,enterEnv,e0,e2,e3',hget,hget2,List.length_set,List.set_set,g1,g2,p1,p2,l1,l2]
    refine ⟨M'.length, by omega, X ++ [a], M', b :: Y, by rw [hlX]; simp, by simp [hXY], rfl, by rw [a4], ?_, ?_⟩
    · simp
    · congr 1
      simp
      omega

/-! ### Small, of one limb -/
theorem good62 (r : Nat) (hr : r < 4294967296) : ∃ n : Nat, n ≤ 32 ∧ Good Go.Proofs.Try.prog 62 [nf (lim r)] (.int .i64 (n : Nat)) := by
  have hc := good36 false (lim r) (by have := lim_len (n := r) (k := 1) (by omega); omega)
  rw [cut_limn] at hc
  by_cases hz : r = 0
  · subst hz
    rw [lim_zero] at hc ⊢
    refine ⟨0, by omega, good_go mix s62 (Nat.le_of_ble_eq_true rfl) fun e he => ?_⟩
    have e0 : e 0 = nf [] := he 0
    clear he
    simp only [c62,b62, oQ]
    simp -implicitDefEqProofs (disch := omega) only [↓ZD,ZP,cnd_t,cnd_f,↓reduceIte,Env.put,stepO,lenV,binV,binInt,unV,loadV,sliceV,boundOf,convV,slstrV,if_pos,if_neg,Int.reduceToNat,Nat.reducePow,V.cells,V.isCell,V.boxable,Nat.reduceEqDiff,reduceCtorEq,reduceIte,ite_self,enterEnv,e0,nf,nsl]
    refine calP_ro rfl hc rfl ?_
    simp -implicitDefEqProofs (disch := omega) only [↓ZD,ZP,cnd_t,cnd_f,↓reduceIte,Env.put,stepO,lenV,binV,binInt,unV,loadV,sliceV,boundOf,convV,slstrV,if_pos,if_neg,Int.reduceToNat,Nat.reducePow,V.cells,V.isCell,V.boxable,Nat.reduceEqDiff,reduceCtorEq,reduceIte,ite_self,enterEnv,e0,nf,nsl]
    exact gives_eq rfl rfl
  · rw [lim_one_of hz hr] at hc ⊢
    have hld := good64 r hr
    have hl32 : lead r ≤ 32 := by unfold lead; omega
    refine ⟨32 - lead r, by omega, good_go mix s62 (Nat.le_of_ble_eq_true rfl) fun e he => ?_⟩
    have e0 : e 0 = nf [r] := he 0
    clear he
    simp only [c62,b62, oQ]
    generalize lead r = ld at *
    simp -implicitDefEqProofs (disch := omega) only [↓ZD,ZP,cnd_t,cnd_f,↓reduceIte,Env.put,stepO,lenV,binV,binInt,unV,loadV,sliceV,boundOf,convV,slstrV,if_pos,if_neg,Int.reduceToNat,Nat.reducePow,V.cells,V.isCell,V.boxable,Nat.reduceEqDiff,reduceCtorEq,reduceIte,ite_self,enterEnv,e0,nf,nsl]
    refine calP_ro rfl hc rfl ?_
    simp -implicitDefEqProofs (disch := omega) only [↓ZD,ZP,cnd_t,cnd_f,↓reduceIte,Env.put,stepO,lenV,binV,binInt,unV,loadV,sliceV,boundOf,convV,slstrV,if_pos,if_neg,Int.reduceToNat,Nat.reducePow,V.cells,V.isCell,V.boxable,Nat.reduceEqDiff,reduceCtorEq,reduceIte,ite_self,enterEnv,e0,nf,nsl,nl,limb]
    refine calP_ro rfl hld rfl ?_
    have hsub : (32 : Int) * ((1 : Nat) : Int) - (ld : Int) = ((32 - ld : Nat) : Int) := by omega
    simp -implicitDefEqProofs (disch := omega) only [↓ZD,ZP,cnd_t,cnd_f,↓reduceIte,Env.put,stepO,lenV,binV,binInt,unV,loadV,sliceV,boundOf,convV,slstrV,if_pos,if_neg,Int.reduceToNat,Nat.reducePow,V.cells,V.isCell,V.boxable,Nat.reduceEqDiff,reduceCtorEq,reduceIte,ite_self,enterEnv,e0,nf,nsl,nl,limb,hsub]
    exact gives_eq rfl rfl

theorem good63 (r : List Nat) : Good Go.Proofs.Try.prog 63 [nf r] (.fn 81 [] [.rptr [nf r] 0]) := by
  refine good_go mix s63 (Nat.le_of_ble_eq_true rfl) fun e he => ?_
  have e0 : e 0 = nf r := he 0
  clear he
  simp only [c63,b63, oQ]
  simp -implicitDefEqProofs (disch := omega) only [↓ZD,ZP,cnd_t,cnd_f,↓reduceIte,Env.put,stepO,lenV,binV,binInt,unV,loadV,sliceV,boundOf,convV,slstrV,if_pos,if_neg,Int.reduceToNat,Nat.reducePow,V.cells,V.isCell,V.boxable,Nat.reduceEqDiff,reduceCtorEq,reduceIte,ite_self,enterEnv,e0,nf,nsl]
  refine gives_lend 1 (v' := .fn 81 [] [.rptr [nf r] 0]) ?_ (by simp only [V.ro,roL,nf_ro]; rfl) rfl
  simp only [lend1,borL,bor]
  rfl

theorem call81_nil (k : Nat) (H : Heap) (K : V → Heap → Prop) (hK : K (.tup []) H) : Call2 Go.Proofs.Try.prog 81 [.yld k, .rptr [nf []] 0] H K := by
  refine call2_go mix s81 (Nat.le_of_ble_eq_true rfl) fun e he => ?_
  have e0 : e 0 = .yld k := he 0
  have e1 : e 1 = .rptr [nf []] 0 := he 1
  clear he
  simp only [c81,b81, oQ]
  simp -implicitDefEqProofs (disch := omega) only [↓ZD,ZP,cnd_t,cnd_f,↓reduceIte,Env.put,stepO,lenV,binV,binInt,unV,loadV,sliceV,boundOf,convV,slstrV,if_pos,if_neg,Int.reduceToNat,Nat.reducePow,V.cells,V.isCell,V.boxable,Nat.reduceEqDiff,reduceCtorEq,reduceIte,ite_self,enterEnv,e0,e1,nf,nsl,nl]
  refine go_loop (fun m e H' => H' = H ∧ e 3 = .int .i64 (-1)) 0 ⟨rfl, by simp [Env.set]⟩ ?_
  rintro m e H' ⟨rfl, e3⟩
  simp -implicitDefEqProofs (disch := omega) only [↓ZD,ZP,cnd_t,cnd_f,↓reduceIte,Env.put,stepO,lenV,binV,binInt,unV,loadV,sliceV,boundOf,convV,slstrV,if_pos,if_neg,Int.reduceToNat,Nat.reducePow,V.cells,V.isCell,V.boxable,Nat.reduceEqDiff,reduceCtorEq,reduceIte,ite_self,enterEnv,e3]
  exact hK

theorem call81_one (r k : Nat) (H : Heap) (K : V → Heap → Prop) (hy : Yld Go.Proofs.Try.prog k [.int .i64 0, limb r] H fun v H' => v = .bool true ∧ K (.tup []) H') : Call2 Go.Proofs.Try.prog 81 [.yld k, .rptr [nf [r]] 0] H K := by
  refine call2_go mix s81 (Nat.le_of_ble_eq_true rfl) fun e he => ?_
  have e0 : e 0 = .yld k := he 0
  have e1 : e 1 = .rptr [nf [r]] 0 := he 1
  clear he
  simp only [c81,b81, oQ]
  simp -implicitDefEqProofs (disch := omega) only [↓ZD,ZP,cnd_t,cnd_f,↓reduceIte,Env.put,stepO,lenV,binV,binInt,unV,loadV,sliceV,boundOf,convV,slstrV,if_pos,if_neg,Int.reduceToNat,Nat.reducePow,V.cells,V.isCell,V.boxable,Nat.reduceEqDiff,reduceCtorEq,reduceIte,ite_self,enterEnv,e0,e1,nf,nsl,nl]
  refine go_loop (fun m e H' => (m = 1 ∧ H' = H ∧ e 0 = .yld k ∧ e 1 = .rptr [nf [r]] 0 ∧ e 3 = .int .i64 0) ∨ (m = 0 ∧ e 3 = .int .i64 (-1) ∧ K (.tup []) H')) 1 (.inl ⟨rfl, rfl, by simp [Env.set, e0], by simp [Env.set, e1, nf, nsl, nl], by simp [Env.set]⟩) ?_
  clear e0 e1
  rintro m e H' (⟨rfl, rfl, e0, e1, e3⟩ | ⟨rfl, e3, hK⟩)
  · simp -implicitDefEqProofs (disch := omega) only [↓ZD,ZP,cnd_t,cnd_f,↓reduceIte,Env.put,stepO,lenV,binV,binInt,unV,loadV,sliceV,boundOf,convV,slstrV,if_pos,if_neg,Int.reduceToNat,Nat.reducePow,V.cells,V.isCell,V.boxable,Nat.reduceEqDiff,reduceCtorEq,reduceIte,ite_self,enterEnv,e0,e1,e3,nf,nsl,nl,limb]
    refine calP_yld (yld_mono hy ?_)
    rintro v H'' ⟨rfl, hK⟩
    simp -implicitDefEqProofs (disch := omega) only [↓ZD,ZP,cnd_t,cnd_f,↓reduceIte,Env.put,stepO,lenV,binV,binInt,unV,loadV,sliceV,boundOf,convV,slstrV,if_pos,if_neg,Int.reduceToNat,Nat.reducePow,V.cells,V.isCell,V.boxable,Nat.reduceEqDiff,reduceCtorEq,reduceIte,ite_self,enterEnv,e0,e1,e3]
    exact ⟨0, by omega, .inr ⟨rfl, rfl, hK⟩⟩
  · simp -implicitDefEqProofs (disch := omega) only [↓ZD,ZP,cnd_t,cnd_f,↓reduceIte,Env.put,stepO,lenV,binV,binInt,unV,loadV,sliceV,boundOf,convV,slstrV,if_pos,if_neg,Int.reduceToNat,Nat.reducePow,V.cells,V.isCell,V.boxable,Nat.reduceEqDiff,reduceCtorEq,reduceIte,ite_self,enterEnv,e3]
    exact hK

theorem good34 (r : Nat) (hr : r < 4294967296) : Good Go.Proofs.Try.prog 34 [nf (lim r)] (.tup [.int .i64 (r : Nat), .bool true]) := by
  obtain ⟨n, hn, h62⟩ := good62 r hr
  have hc := good36 false (lim r) (by have := lim_len (n := r) (k := 1) (by omega); omega)
  rw [cut_limn] at hc
  simp only [Bool.false_or] at hc
  have hc' : Good Go.Proofs.Try.prog 36 [nf (lim r)] (nf (lim r)) := by
    have : (decide ((lim r).length < (lim r).length)) = false := by simp
    rw [this] at hc
    exact hc
  have h63 := good63 (lim r)
  refine good_go mix s34 (Nat.le_of_ble_eq_true rfl) fun e he => ?_
  have e0 : e 0 = nf (lim r) := he 0
  clear he
  simp only [c34,b34, oQ]
  simp -implicitDefEqProofs (disch := omega) only [↓ZD,ZP,cnd_t,cnd_f,↓reduceIte,Env.put,stepO,lenV,binV,binInt,unV,loadV,sliceV,boundOf,convV,slstrV,if_pos,if_neg,Int.reduceToNat,Nat.reducePow,V.cells,V.isCell,V.boxable,Nat.reduceEqDiff,reduceCtorEq,reduceIte,ite_self,enterEnv,e0,↓cells_nsl,↓cells_nf,↓box_nsl,↓box_nf,↓isc_nsl,↓isc_nf,↓len_nsl,↓len_nf]
  refine calP_ro (by simp [roL, V.ro, nl_ro, nsl_ro, nf_ro, nls_ro]) h62 rfl ?_
  simp -implicitDefEqProofs (disch := omega) only [↓ZD,ZP,cnd_t,cnd_f,↓reduceIte,Env.put,stepO,lenV,binV,binInt,unV,loadV,sliceV,boundOf,convV,slstrV,if_pos,if_neg,Int.reduceToNat,Nat.reducePow,V.cells,V.isCell,V.boxable,Nat.reduceEqDiff,reduceCtorEq,reduceIte,ite_self,enterEnv,e0,↓cells_nsl,↓cells_nf,↓box_nsl,↓box_nf,↓isc_nsl,↓isc_nf,↓len_nsl,↓len_nf]
  refine calP_ro (by simp [roL, V.ro, nl_ro, nsl_ro, nf_ro, nls_ro]) hc' (nf_ro _) ?_
  simp -implicitDefEqProofs (disch := omega) only [↓ZD,ZP,cnd_t,cnd_f,↓reduceIte,Env.put,stepO,lenV,binV,binInt,unV,loadV,sliceV,boundOf,convV,slstrV,if_pos,if_neg,Int.reduceToNat,Nat.reducePow,V.cells,V.isCell,V.boxable,Nat.reduceEqDiff,reduceCtorEq,reduceIte,ite_self,enterEnv,e0,↓cells_nsl,↓cells_nf,↓box_nsl,↓box_nf,↓isc_nsl,↓isc_nf,↓len_nsl,↓len_nf]
  refine calP_ro (by simp [roL, V.ro, nl_ro, nsl_ro, nf_ro, nls_ro]) h63 (by simp only [V.ro,roL,nf_ro]; rfl) ?_
  simp -implicitDefEqProofs (disch := omega) only [↓ZD,ZP,cnd_t,cnd_f,↓reduceIte,Env.put,stepO,lenV,binV,binInt,unV,loadV,sliceV,boundOf,convV,slstrV,if_pos,if_neg,Int.reduceToNat,Nat.reducePow,V.cells,V.isCell,V.boxable,Nat.reduceEqDiff,reduceCtorEq,reduceIte,ite_self,enterEnv,e0,↓cells_nsl,↓cells_nf,↓box_nsl,↓box_nf,↓isc_nsl,↓isc_nf,↓len_nsl,↓len_nf]
  have hspl : ∀ x y : V, splice [x] 0 [y] = [y] := fun _ _ => rfl
  have hor : (BitVec.ofInt IntKind.i64.bits 0 ||| BitVec.ofInt IntKind.i64.bits ((r : Nat) : Int)).toNat = r := by
    have := or64n (a := 0) (b := r) (by decide) (by omega)
    rw [Nat.zero_or] at this
    exact this
  have h0s : IntKind.i64.wrap (0 * 2 ^ min (Int.toNat 32) IntKind.i64.bits) = 0 := by rw [Int.zero_mul]; rfl
  by_cases hz : r = 0
  · subst hz
    rw [lim_zero]
    refine rng_env fun e' he' => rng_heap (call81_nil _ _ _ ?_)
    refine after_n rfl (by decide) ?_
    have f4 : e' 4 = .cell 0 0 0 := by rw [he']; simp [Env.set]
    clear he'
    simp -implicitDefEqProofs (disch := (first | omega | (simp only [List.length_append,List.length_set,List.length_cons,List.length_nil]; try omega; done))) only [↓ZD,ZP,ZL,cnd_t,cnd_f,↓reduceIte,Env.put,stepO,lenV,binV,binInt,unV,loadV,sliceV,boundOf,convV,slstrV,if_pos,if_neg,Int.reduceToNat,Nat.reducePow,V.cells,V.isCell,V.boxable,Nat.reduceEqDiff,reduceCtorEq,reduceIte,ite_self,enterEnv,f4,hspl]
    exact gives_eq rfl rfl
  · rw [lim_one_of hz hr]
    refine rng_env fun e' he' => rng_heap (call81_one r _ _ _ ?_)
    have f4 : e' 4 = .cell 0 0 0 := by rw [he']; simp [Env.set]
    clear he'
    refine yld_go mix rfl rfl fun e₀ he₀ => ?_
    have g4 : e₀ 4 = .cell 0 0 0 := by rw [he₀]; simp [setL, Env.set, f4]
    have g14 : e₀ 14 = limb r := by rw [he₀]; simp [setL, Env.set]
    clear he₀
    generalize hS : Strp Go.Proofs.Try.prog r34_0 r34_1 = S at *
    simp only [r34_0, oQ]
    simp -implicitDefEqProofs (disch := (first | omega | (simp only [List.length_append,List.length_set,List.length_cons,List.length_nil]; try omega; done))) only [↓ZD,ZP,ZL,cnd_t,cnd_f,↓reduceIte,Env.put,stepO,lenV,binV,binInt,unV,loadV,sliceV,boundOf,convV,slstrV,if_pos,if_neg,Int.reduceToNat,Nat.reducePow,V.cells,V.isCell,V.boxable,Nat.reduceEqDiff,reduceCtorEq,reduceIte,ite_self,enterEnv,g4,g14]
    refine ⟨none, rfl, ?_⟩
    simp only [r34_1, oQ]
    simp -implicitDefEqProofs (disch := (first | omega | (simp only [List.length_append,List.length_set,List.length_cons,List.length_nil]; try omega; done))) only [↓ZD,ZP,ZL,cnd_t,cnd_f,↓reduceIte,Env.put,stepO,lenV,binV,binInt,unV,loadV,sliceV,boundOf,convV,slstrV,if_pos,if_neg,Int.reduceToNat,Nat.reducePow,V.cells,V.isCell,V.boxable,Nat.reduceEqDiff,reduceCtorEq,reduceIte,ite_self,enterEnv,g4,g14,limb,hspl,Int.zero_mul,hor]
    refine ⟨⟨.busy, none, rfl⟩, rfl, ?_⟩
    refine after_n rfl (by decide) ?_
    simp -implicitDefEqProofs (disch := (first | omega | (simp only [List.length_append,List.length_set,List.length_cons,List.length_nil]; try omega; done))) only [↓ZD,ZP,ZL,cnd_t,cnd_f,↓reduceIte,Env.put,stepO,lenV,binV,binInt,unV,loadV,sliceV,boundOf,convV,slstrV,if_pos,if_neg,Int.reduceToNat,Nat.reducePow,V.cells,V.isCell,V.boxable,Nat.reduceEqDiff,reduceCtorEq,reduceIte,ite_self,enterEnv,f4]
    exact gives_eq rfl rfl
end Fe
open Go Go.Proofs
namespace Fe

/-! ### A number's digits -/
def digit (n : Nat) : UInt8 := UInt8.ofNat (48 + n % 10)
theorem digit_nat (n : Nat) : (digit n).toNat = 48 + n % 10 := toNat_of (by omega)
def digs : Nat → Nat → List UInt8
  | 0, _ => []
  | k + 1, n => digit n :: digs k (n / 10)
theorem digs_len : ∀ (k n : Nat), (digs k n).length = k
  | 0, n => rfl
  | k + 1, n => by rw [digs, List.length_cons, digs_len]
theorem digs_split : ∀ (k j n : Nat), digs (k + j) n = digs k n ++ digs j (n / 10 ^ k)
  | 0, j, n => by simp [digs]
  | k + 1, j, n => by
    rw [show k + 1 + j = (k + j) + 1 by omega, digs, digs, digs_split k j (n / 10), List.cons_append, Nat.div_div_eq_div_mul, Nat.pow_succ, Nat.mul_comm (10 ^ k)]
theorem digs_snoc (k n : Nat) : digs (k + 1) n = digs k n ++ [digit (n / 10 ^ k)] := by
  rw [digs_split]; rfl
/-- All digits, the last one first. -/
def decR (n : Nat) : List UInt8 := if h : n = 0 then [] else digit n :: decR (n / 10)
termination_by n
decreasing_by omega
theorem decR_zero : decR 0 = [] := by rw [decR]; rfl
theorem decR_pos {n : Nat} (h : n ≠ 0) : decR n = digit n :: decR (n / 10) := by rw [decR, dif_neg h]
theorem digs_zero : ∀ k, digs k 0 = List.replicate k 48
  | 0 => rfl
  | k + 1 => by rw [digs, Nat.zero_div, digs_zero k]; rfl
theorem digit_mod {n k : Nat} : digit (n % 10 ^ (k + 1)) = digit n := by
  have : n % 10 ^ (k + 1) % 10 = n % 10 := Nat.mod_mod_of_dvd n ⟨10 ^ k, by rw [Nat.pow_succ]; omega⟩
  simp only [digit,this]
theorem digs_mod : ∀ (k n : Nat), digs k (n % 10 ^ k) = digs k n
  | 0, n => rfl
  | k + 1, n => by
    rw [digs, digs, digit_mod, ← digs_mod k (n / 10)]
    congr 2
    rw [Nat.pow_succ, Nat.mul_comm, Nat.mod_mul_right_div_self]
/-- As many digits as there are, and zeros. -/
theorem digs_dec : ∀ (k n : Nat), n < 10 ^ k → digs k n = decR n ++ List.replicate (k - (decR n).length) 48
  | 0, n, h => by
    have : n = 0 := by simpa using h
    subst this
    rw [decR_zero]; rfl
  | k + 1, n, h => by
    by_cases hz : n = 0
    · subst hz
      rw [decR_zero, digs_zero]; rfl
    · rw [digs, digs_dec k (n / 10) (by rw [Nat.pow_succ] at h; omega), decR_pos hz, List.length_cons, Nat.add_sub_add_right]; rfl
theorem dec_split : ∀ (k n : Nat), 10 ^ k ≤ n → decR n = digs k n ++ decR (n / 10 ^ k)
  | 0, n, h => by simp [digs]
  | k + 1, n, h => by
    have hz : n ≠ 0 := by have : 0 < 10 ^ (k + 1) := Nat.pow_pos (by decide); omega
    have h' : 10 ^ k ≤ n / 10 := by rw [Nat.pow_succ] at h; omega
    rw [decR_pos hz, dec_split k (n / 10) h', digs, Nat.div_div_eq_div_mul, Nat.pow_succ, Nat.mul_comm 10]; rfl
/-- By nines. -/
def chunks (n : Nat) : List UInt8 := if h : n = 0 then [] else digs 9 n ++ chunks (n / 1000000000)
termination_by n
decreasing_by omega
theorem chunks_zero : chunks 0 = [] := by rw [chunks]; rfl
theorem chunks_pos {n : Nat} (h : n ≠ 0) : chunks n = digs 9 n ++ chunks (n / 1000000000) := by rw [chunks, dif_neg h]
theorem chunks_dec (n : Nat) : ∃ z, chunks n = decR n ++ List.replicate z 48 := by
  induction n using Nat.strongRecOn with
  | _ n ih =>
    by_cases hz : n = 0
    · subst hz
      exact ⟨0, by rw [chunks_zero, decR_zero]; rfl⟩
    · rw [chunks_pos hz]
      by_cases hl : n < 1000000000
      · rw [Nat.div_eq_of_lt hl, chunks_zero, List.append_nil]
        exact ⟨_, digs_dec 9 n hl⟩
      · obtain ⟨z, h⟩ := ih (n / 1000000000) (by omega)
        refine ⟨z, ?_⟩
        rw [h, dec_split 9 n (by omega), List.append_assoc]
/-- The foremost digit is not 0. -/
theorem dec_last (n : Nat) (h : n ≠ 0) : ∃ A d, decR n = A ++ [digit d] ∧ 0 < d ∧ d < 10 := by
  induction n using Nat.strongRecOn with
  | _ n ih =>
    rw [decR_pos h]
    by_cases hl : n < 10
    · rw [Nat.div_eq_of_lt hl, decR_zero]
      exact ⟨[], n, rfl, by omega, hl⟩
    · obtain ⟨A, d, h1, h2, h3⟩ := ih (n / 10) (by omega) (by omega)
      exact ⟨digit n :: A, d, by rw [h1]; rfl, h2, h3⟩
/-- A number's text. -/
def printN (n : Nat) : List UInt8 := if n = 0 then [48] else (decR n).reverse
theorem dec_len {n k : Nat} (h : n < 10 ^ k) : (decR n).length ≤ k := by
  have h1 := digs_dec k n h
  have h2 := congrArg List.length h1
  rw [digs_len, List.length_append, List.length_replicate] at h2
  omega
/-- It is read as the number again. -/
theorem decN_app : ∀ (a b : List UInt8) (n m : Nat), decN n a = some m → decN n (a ++ b) = decN m b
  | [], b, n, m, h => by simp only [decN,Option.some.injEq] at h; rw [List.nil_append, h]
  | c :: a, b, n, m, h => by
    rw [decN] at h
    rw [List.cons_append, decN]
    split at h
    · cases h
    · rename_i hc
      rw [if_neg hc]
      exact decN_app a b _ m h
theorem decN_rev (n : Nat) : decN 0 (decR n).reverse = some n := by
  induction n using Nat.strongRecOn with
  | _ n ih =>
    by_cases hz : n = 0
    · subst hz; rw [decR_zero]; rfl
    · rw [decR_pos hz, List.reverse_cons, decN_app _ _ _ _ (ih (n / 10) (by omega)), decN, digit_nat, if_neg (by omega), decN]
      congr 1
      omega
theorem natP_print (n : Nat) : natP (printN n) = (n, true) := by
  unfold printN
  split
  · rename_i h; subst h; rfl
  · rename_i h
    have hne : ((decR n).reverse == []) = false := by
      rw [decR_pos h]; simp
    simp only [natP,decN_rev,hne,Bool.not_false]
theorem print_digits (n : Nat) : ∀ b ∈ printN n, 48 ≤ b.toNat ∧ b.toNat ≤ 57 := by
  have hd : ∀ n, ∀ b ∈ decR n, 48 ≤ b.toNat ∧ b.toNat ≤ 57 := by
    intro n
    induction n using Nat.strongRecOn with
    | _ n ih =>
      by_cases hz : n = 0
      · subst hz; rw [decR_zero]; intro b hb; cases hb
      · rw [decR_pos hz]
        intro b hb
        rcases List.mem_cons.1 hb with rfl | hb
        · rw [digit_nat]; omega
        · exact ih _ (by omega) b hb
  unfold printN
  split
  · intro b hb
    rw [List.mem_singleton.1 hb]
    decide
  · intro b hb
    exact hd n b (List.mem_reverse.1 hb)
end Fe
open Go Go.Proofs
namespace Fe

theorem bytesOf_bsl : ∀ l : List UInt8, bytesOf (bsl l) = some l
  | [] => rfl
  | b :: l => by
    have h := bytesOf_bsl l
    simp only [bsl] at h
    simp only [bsl,List.map_cons,bytesOf,h,Option.map_some,Option.some.injEq,List.cons.injEq,and_true]
    simp
theorem ten_lt {k n c : Nat} (h : 10 ^ k ≤ n) (hn : n < 4294967296 ^ c) : k < 10 * c := by
  have h1 : n < 10 ^ (10 * c) := by
    refine Nat.lt_of_lt_of_le hn ?_
    have : (4294967296 : Nat) ^ c ≤ (10 ^ 10) ^ c := Nat.pow_le_pow_left (by decide) c
    rwa [← Nat.pow_mul] at this
  exact (Nat.pow_lt_pow_iff_right (by decide : 1 < 10)).1 (Nat.lt_of_le_of_lt h h1)

/-- Where the digits lie. -/
def DigAt (v : V) (H : Heap) (D : List UInt8) : Prop :=
  (D = [] ∧ H = [] ∧ v = .sl true [] 0) ∨ (D ≠ [] ∧ ∃ g, H = [.cells g 1 true (bsl D)] ∧ v = .view 0 g 0 D.length)

theorem quo_rem (a v : Nat) (hv : val (lim v) = v) : nf (cut (sdiv 1000000000 (cut (lim v))).1) = nf (lim (v / 1000000000)) ∧ nf (cut [(sdiv 1000000000 (cut (lim v))).2, 0]) = nf (lim (v % 1000000000)) := by
  rw [cut_limn]
  have h1 := sdiv_val 1000000000 (by decide) (lim v)
  have h2 := sdiv_lt 1000000000 (by decide) (lim v)
  rw [lim_val] at h1
  have hq : val (sdiv 1000000000 (lim v)).1 = v / 1000000000 := by omega
  have hr : (sdiv 1000000000 (lim v)).2 = v % 1000000000 := by omega
  constructor
  · rw [cut_lim (sdiv_lm _ (by decide) _ (lim_lm v)), hq]
  · rw [cut_lim (by intro x hx; simp at hx; omega)]
    simp [val, hr]

set_option maxHeartbeats 2000000 in
theorem good16 (ex : Bool) (a : List Nat) (ha : Lm a) (hl : a.length ≤ 1000) : Good Go.Proofs.Try.prog 16 [nsl ex a] (.str (printN (val a))) := by
  have ht := trim32 ex a (by omega)
  rw [cut_lim ha] at ht
  have hvb := val_lt ha
  generalize val a = v at *
  generalize a.length = L at hvb hl
  have hr10 : ∀ n : Nat, ((n : Nat) : Int).tmod 10 = ((n % 10 : Nat) : Int) := fun n => tmod_c n 10
  have hq10 : ∀ n : Nat, ((n : Nat) : Int).tdiv 10 = ((n / 10 : Nat) : Int) := fun n => tdiv_c n 10
  have h48 : ∀ n : Nat, (48 : Int) + (n : Int) = ((48 + n : Nat) : Int) := fun n => by omega
  refine good_go mix s16 (Nat.le_of_ble_eq_true rfl) fun e he => ?_
  have e0 : e 0 = nsl ex a := he 0
  clear he
  simp only [c16,b16, oQ]
  simp -implicitDefEqProofs (disch := omega) only [↓ZD,ZP,cnd_t,cnd_f,↓reduceIte,Env.put,stepO,lenV,binV,binInt,unV,loadV,sliceV,boundOf,convV,slstrV,if_pos,if_neg,Int.reduceToNat,Nat.reducePow,V.cells,V.isCell,V.boxable,Nat.reduceEqDiff,reduceCtorEq,reduceIte,ite_self,enterEnv,e0]
  refine calP_ro (by simp only [roL,nsl_ro]; rfl) ht (nf_ro _) ?_
  simp -implicitDefEqProofs (disch := omega) only [↓ZD,ZP,cnd_t,cnd_f,↓reduceIte,Env.put,stepO,lenV,binV,binInt,unV,loadV,sliceV,boundOf,convV,slstrV,if_pos,if_neg,Int.reduceToNat,Nat.reducePow,V.cells,V.isCell,V.boxable,Nat.reduceEqDiff,reduceCtorEq,reduceIte,ite_self,enterEnv,e0]
  refine go_loop (fun m e H => ∃ D v', m = v' ∧ chunks v = D ++ chunks v' ∧ v' = v / 10 ^ D.length ∧ D.length ≤ 10009 ∧ e 0 = nf (lim v') ∧ DigAt (e 3) H D) v ⟨[], v, rfl, rfl, by simp, by simp, by simp [Env.set], .inl ⟨rfl, rfl, by simp [Env.set]⟩⟩ ?_
  clear e0
  rintro m e H ⟨D, v', rfl, hch, hv', hDl, e0, hout⟩
  by_cases hz : m = 0
  · -- behind the loop
    subst hz
    rw [chunks_zero, List.append_nil] at hch
    rw [lim_zero] at e0
    have h0 : nf [] = .sl false [] 0 := rfl
    rw [h0] at e0
    rcases hout with ⟨rfl, rfl, e3⟩ | ⟨hne, g, rfl, e3⟩
    · have hv0 : v = 0 := by simpa using hv'.symm
      subst hv0
      simp -implicitDefEqProofs (disch := omega) only [↓ZD,ZP,cnd_t,cnd_f,↓reduceIte,Env.put,stepO,lenV,binV,binInt,unV,loadV,sliceV,boundOf,convV,slstrV,if_pos,if_neg,Int.reduceToNat,Nat.reducePow,V.cells,V.isCell,V.boxable,Nat.reduceEqDiff,reduceCtorEq,reduceIte,ite_self,enterEnv,e0,e3]
      refine go_loop (fun m e H => H = [] ∧ e 3 = .sl true [] 0) 0 ⟨rfl, e3⟩ ?_
      rintro m e H ⟨rfl, e3⟩
      simp -implicitDefEqProofs (disch := omega) only [↓ZD,ZP,cnd_t,cnd_f,↓reduceIte,Env.put,stepO,lenV,binV,binInt,unV,loadV,sliceV,boundOf,convV,slstrV,if_pos,if_neg,Int.reduceToNat,Nat.reducePow,V.cells,V.isCell,V.boxable,Nat.reduceEqDiff,reduceCtorEq,reduceIte,ite_self,enterEnv,e3]
      exact gives_eq rfl rfl
    · have hv0 : v ≠ 0 := by
        rintro rfl
        rw [chunks_zero] at hch
        exact hne hch.symm
      obtain ⟨z, hzz⟩ := chunks_dec v
      obtain ⟨A, d, hA, hd1, hd2⟩ := dec_last v hv0
      rw [hch] at hzz
      have hdig : (digit d).toNat = 48 + d := by rw [digit_nat]; omega
      have hDL : D.length = A.length + 1 + z := by rw [hzz, hA]; simp; omega
      have hbl := bsl_len D
      simp -implicitDefEqProofs (disch := omega) only [↓ZD,ZP,cnd_t,cnd_f,↓reduceIte,Env.put,stepO,lenV,binV,binInt,unV,loadV,sliceV,boundOf,convV,slstrV,if_pos,if_neg,Int.reduceToNat,Nat.reducePow,V.cells,V.isCell,V.boxable,Nat.reduceEqDiff,reduceCtorEq,reduceIte,ite_self,enterEnv,e0,e3]
      refine go_loop (fun m e H => ∃ g, m ≤ z ∧ H = [.cells g 1 true (bsl D)] ∧ e 3 = .view 0 g 0 (A.length + 1 + m)) z ⟨g, Nat.le_refl _, rfl, by simp [Env.set, e3, hDL]⟩ ?_
      clear e3 e0
      rintro m e H ⟨g, hm, rfl, e3⟩
      have hget : ([HObj.cells g 1 true (bsl D)] : Heap)[0]? = some (.cells g 1 true (bsl D)) := rfl
      cases m with
      | succ m =>
        have hat : (bsl D)[A.length + 1 + m]? = some (.int .u8 48) := by
          have : D = (A ++ digit d :: List.replicate m 48) ++ 48 :: List.replicate (z - m - 1) 48 := by
            have hy : List.replicate z (48 : UInt8) = List.replicate m 48 ++ 48 :: List.replicate (z - m - 1) 48 := by
              rw [show (48 :: List.replicate (z - m - 1) (48 : UInt8)) = List.replicate (z - m - 1 + 1) 48 from rfl, List.replicate_append_replicate]
              congr 1
              omega
            rw [hzz, hA, hy]
            simp
          rw [this]
          exact bsl_at _ _ _ (by simp; omega)
        have hn : ((A.length + 1 + (m + 1) : Nat) : Int) - 1 = ((A.length + 1 + m : Nat) : Int) := by omega
        have hgen : genOf [HObj.cells g 1 true (bsl D)] 0 = g := rfl
        have hesz : eszOf [HObj.cells g 1 true (bsl D)] 0 = 1 := rfl
        generalize bsl D = BD at *
        simp -implicitDefEqProofs (disch := omega) only [↓ZD,ZP,cnd_t,cnd_f,↓reduceIte,Env.put,stepO,lenV,binV,binInt,unV,loadV,sliceV,boundOf,convV,slstrV,if_pos,if_neg,Int.reduceToNat,Nat.reducePow,V.cells,V.isCell,V.boxable,Nat.reduceEqDiff,reduceCtorEq,reduceIte,ite_self,enterEnv,e3,hget,hat,hn,hgen,hesz]
        exact ⟨m, by omega, g, by omega, rfl, rfl⟩
      | zero =>
        have hat : (bsl D)[A.length]? = some (.int .u8 ((48 + d : Nat) : Int)) := by
          have : D = A ++ digit d :: List.replicate z 48 := by rw [hzz, hA]; simp
          rw [this, ← hdig]
          exact bsl_at _ _ _ rfl
        have hn : ((A.length + 1 + 0 : Nat) : Int) - 1 = (A.length : Int) := by omega
        have hne48 : (((48 + d : Nat) : Int) == 48) = false := by
          rw [beq_eq_false_iff_ne]; omega
        have hpr : printN v = (decR v).reverse := by rw [printN, if_neg hv0]
        have hdl : (decR v).length = A.length + 1 := by rw [hA]; simp
        have hc35 : ∀ K : V → Heap → Prop, K (.tup []) [.cells g 1 true (bsl ((decR v).reverse ++ List.replicate z 48))] → Call2 Go.Proofs.Try.prog 35 [.view 0 g 0 (A.length + 1)] [.cells g 1 true (bsl D)] K := by
          intro K hK
          have := call35 [.cells g 1 true (bsl D)] 0 g (decR v) (List.replicate z 48) K (by rw [hzz]; rfl) (by omega) hK
          rwa [hdl] at this
        have hfin : readSl 1 [.cells g 1 true (bsl ((decR v).reverse ++ List.replicate z 48))] 1 (.view 0 g 0 (A.length + 1)) = some (A.length + 1, bsl (decR v).reverse) := by
          have hlen : (bsl ((decR v).reverse ++ List.replicate z 48)).length = A.length + 1 + z := by rw [bsl_len]; simp [hdl]
          have htk : (bsl ((decR v).reverse ++ List.replicate z 48)).take (A.length + 1) = bsl (decR v).reverse := by
            simp only [bsl,List.map_append]
            rw [List.take_left' (by simp [hdl])]
          simp only [readSl,List.getElem?_cons_zero,Nat.zero_lt_one,if_true,List.drop_zero,Nat.mul_one,htk,hlen,true_and]
          rw [if_pos (by omega)]
        have hb : bytesOf (bsl (decR v).reverse) = some (decR v).reverse := bytesOf_bsl _
        generalize bsl D = BD at *
        generalize bsl ((decR v).reverse ++ List.replicate z 48) = BR at *
        rcases Nat.eq_zero_or_pos A.length with hA0 | hA1
        · simp -implicitDefEqProofs (disch := omega) only [↓ZD,ZP,cnd_t,cnd_f,↓reduceIte,Env.put,stepO,lenV,binV,binInt,unV,loadV,sliceV,boundOf,convV,slstrV,if_pos,if_neg,Int.reduceToNat,Nat.reducePow,V.cells,V.isCell,V.boxable,Nat.reduceEqDiff,reduceCtorEq,reduceIte,ite_self,enterEnv,e3,hget,hat,hn,hne48,hA0]
          rw [hA0] at hc35
          refine calP_heap (hc35 _ ?_)
          simp -implicitDefEqProofs (disch := omega) only [↓ZD,ZP,cnd_t,cnd_f,↓reduceIte,Env.put,stepO,lenV,binV,binInt,unV,loadV,sliceV,boundOf,convV,slstrV,if_pos,if_neg,Int.reduceToNat,Nat.reducePow,V.cells,V.isCell,V.boxable,Nat.reduceEqDiff,reduceCtorEq,reduceIte,ite_self,enterEnv,e3,hfin,hb]
          rw [hpr]
          exact gives_eq rfl rfl
        · simp -implicitDefEqProofs (disch := omega) only [↓ZD,ZP,cnd_t,cnd_f,↓reduceIte,Env.put,stepO,lenV,binV,binInt,unV,loadV,sliceV,boundOf,convV,slstrV,if_pos,if_neg,Int.reduceToNat,Nat.reducePow,V.cells,V.isCell,V.boxable,Nat.reduceEqDiff,reduceCtorEq,reduceIte,ite_self,enterEnv,e3,hget,hat,hn,hne48]
          refine calP_heap (hc35 _ ?_)
          simp -implicitDefEqProofs (disch := omega) only [↓ZD,ZP,cnd_t,cnd_f,↓reduceIte,Env.put,stepO,lenV,binV,binInt,unV,loadV,sliceV,boundOf,convV,slstrV,if_pos,if_neg,Int.reduceToNat,Nat.reducePow,V.cells,V.isCell,V.boxable,Nat.reduceEqDiff,reduceCtorEq,reduceIte,ite_self,enterEnv,e3,hfin,hb]
          rw [hpr]
          exact gives_eq rfl rfl
  · -- a round
    have h10 : 10 ^ D.length ≤ v := by
      rcases Nat.lt_or_ge v (10 ^ D.length) with h | h
      · rw [Nat.div_eq_of_lt h] at hv'; exact absurd hv' hz
      · exact h
    have hD := ten_lt h10 hvb
    have hg33 := good33 false (lim m) 1000000000 (by decide) (by decide) (lim_lm m) (by
      have : m < 4294967296 ^ L := Nat.lt_of_le_of_lt (by rw [hv']; exact Nat.div_le_self _ _) hvb
      have := lim_len this; omega)
    obtain ⟨hq, hr⟩ := quo_rem 0 m (lim_val m)
    rw [hq, hr] at hg33
    have hg34 := good34 (m % 1000000000) (by omega)
    have hml : (lim m).length ≠ 0 := fun h => hz (lim_nil_len.1 h)
    have hchm := chunks_pos hz
    rw [hchm, ← digs_mod 9 m, show (10 : Nat) ^ 9 = 1000000000 by decide] at hch
    have hdiv : m / 1000000000 = v / 10 ^ (D.length + 9) := by
      rw [hv', Nat.div_div_eq_div_mul, Nat.pow_add]
    generalize hr9 : m % 1000000000 = r at *
    generalize hq9 : m / 1000000000 = q at *
    have hqm : q < m := by omega
    simp -implicitDefEqProofs (disch := omega) only [↓ZD,ZP,cnd_t,cnd_f,↓reduceIte,Env.put,stepO,lenV,binV,binInt,unV,loadV,sliceV,boundOf,convV,slstrV,if_pos,if_neg,Int.reduceToNat,Nat.reducePow,V.cells,V.isCell,V.boxable,Nat.reduceEqDiff,reduceCtorEq,reduceIte,ite_self,enterEnv,e0,nf,nsl]
    refine calP_ro (by simp [roL, V.ro, nl_ro, nsl_ro, nf_ro, limb]) hg33 (by simp only [V.ro,roL,nf_ro]; rfl) ?_
    simp -implicitDefEqProofs (disch := omega) only [↓ZD,ZP,cnd_t,cnd_f,↓reduceIte,Env.put,stepO,lenV,binV,binInt,unV,loadV,sliceV,boundOf,convV,slstrV,if_pos,if_neg,Int.reduceToNat,Nat.reducePow,V.cells,V.isCell,V.boxable,Nat.reduceEqDiff,reduceCtorEq,reduceIte,ite_self,enterEnv,e0,nf,nsl]
    refine calP_ro (by simp [roL, V.ro, nl_ro, nsl_ro, nf_ro, nls_ro]) hg34 rfl ?_
    simp -implicitDefEqProofs (disch := omega) only [↓ZD,ZP,cnd_t,cnd_f,↓reduceIte,Env.put,stepO,lenV,binV,binInt,unV,loadV,sliceV,boundOf,convV,slstrV,if_pos,if_neg,Int.reduceToNat,Nat.reducePow,V.cells,V.isCell,V.boxable,Nat.reduceEqDiff,reduceCtorEq,reduceIte,ite_self,enterEnv,e0,nf,nsl]
    refine go_loop (fun k e H => ∃ i, i ≤ 9 ∧ k = 9 - i ∧ e 23 = .int .i64 (i : Nat) ∧ e 6 = .int .i64 ((r / 10 ^ i : Nat) : Int) ∧ e 4 = nf (lim q) ∧ DigAt (e 3) H (D ++ digs i r)) 9
      ⟨0, by omega, rfl, by simp [Env.set], by simp [Env.set], by simp [Env.set, nf, nsl], by simpa [Env.set, digs] using hout⟩ ?_
    clear hout e0
    rintro k e H ⟨i, hi, rfl, e23, e6, e4, hout⟩
    rcases Nat.lt_or_ge i 9 with hlt | hge
    · have hi9 : (i : Int) < 9 := by omega
      have hds : D ++ digs (i + 1) r = D ++ digs i r ++ [digit (r / 10 ^ i)] := by rw [digs_snoc, List.append_assoc]
      have hrd : r / 10 ^ i / 10 = r / 10 ^ (i + 1) := by rw [Nat.div_div_eq_div_mul, Nat.pow_succ]
      have hdg : (digit (r / 10 ^ i)).toNat = 48 + r / 10 ^ i % 10 := digit_nat _
      have hrle : r / 10 ^ i < 1000000000 := Nat.lt_of_le_of_lt (Nat.div_le_self _ _) (by omega)
      have hDi : (D ++ digs i r).length = D.length + i := by rw [List.length_append, digs_len]
      generalize hx : r / 10 ^ i = x at *
      rcases hout with ⟨h1, rfl, e3⟩ | ⟨hne, g, rfl, e3⟩
      · simp -implicitDefEqProofs (disch := omega) only [↓ZD,ZP,cnd_t,cnd_f,↓reduceIte,Env.put,stepO,lenV,binV,binInt,unV,loadV,sliceV,boundOf,convV,slstrV,if_pos,if_neg,Int.reduceToNat,Nat.reducePow,V.cells,V.isCell,V.boxable,Nat.reduceEqDiff,reduceCtorEq,reduceIte,ite_self,enterEnv,e23,e6,e4,e3,hr10,hq10,h48,fillL,evParts,splice,List.take_zero,List.take_succ_cons,List.drop_succ_cons,List.drop_zero,List.drop_nil,appendV,srcCells,readSl]
        refine ⟨9 - (i + 1), by omega, i + 1, by omega, rfl, rfl, by rw [hrd], .inr ⟨by rw [hds]; simp, 0, ?_, ?_⟩⟩
        · rw [hds, h1]
          simp [bsl, hdg]
        · rw [hds, h1]; rfl
      · have hget : ([HObj.cells g 1 true (bsl (D ++ digs i r))] : Heap)[0]? = some (.cells g 1 true (bsl (D ++ digs i r))) := rfl
        have hbl := bsl_len (D ++ digs i r)
        have hap : bsl (D ++ digs (i + 1) r) = bsl (D ++ digs i r) ++ [.int .u8 ((48 + x % 10 : Nat) : Int)] := by
          rw [hds]; simp [bsl, hdg]
        have hlen' : (D ++ digs (i + 1) r).length = D.length + i + 1 := by rw [List.length_append, digs_len]; omega
        rw [hDi] at e3 hbl
        generalize bsl (D ++ digs i r) = BB at *
        have htk : BB.take (D.length + i) = BB := by rw [← hbl, List.take_length]
        simp -implicitDefEqProofs (disch := omega) only [↓ZD,ZP,cnd_t,cnd_f,↓reduceIte,Env.put,stepO,lenV,binV,binInt,unV,loadV,sliceV,boundOf,convV,slstrV,if_pos,if_neg,Int.reduceToNat,Nat.reducePow,V.cells,V.isCell,V.boxable,Nat.reduceEqDiff,reduceCtorEq,reduceIte,ite_self,enterEnv,e23,e6,e4,e3,hr10,hq10,h48,fillL,evParts,splice,List.take_zero,List.take_succ_cons,List.drop_succ_cons,List.drop_zero,List.drop_nil,appendV,srcCells,readSl,hget,hbl,htk]
        refine ⟨9 - (i + 1), by omega, i + 1, by omega, rfl, rfl, by rw [hrd], .inr ⟨by rw [hds]; simp, g + 1, ?_, ?_⟩⟩
        · rw [hap]
        · rw [hlen']
    · have : i = 9 := by omega
      subst this
      simp -implicitDefEqProofs (disch := omega) only [↓ZD,ZP,cnd_t,cnd_f,↓reduceIte,Env.put,stepO,lenV,binV,binInt,unV,loadV,sliceV,boundOf,convV,slstrV,if_pos,if_neg,Int.reduceToNat,Nat.reducePow,V.cells,V.isCell,V.boxable,Nat.reduceEqDiff,reduceCtorEq,reduceIte,ite_self,enterEnv,e23,e6,e4]
      have hD9 : (D ++ digs 9 r).length = D.length + 9 := by rw [List.length_append, digs_len]
      exact ⟨q, hqm, D ++ digs 9 r, q, rfl, by rw [hch, List.append_assoc], by rw [hD9]; exact hdiv, by omega, rfl, by simpa [Env.set] using hout⟩
end Fe
open Go Go.Proofs
namespace Fe
def b8 : C :=
 (.seq
 (.region false [
 oQ 1 (.box (.t 0)),
 oQ 2 (.mov (.c (.str [])))])
 (.seq
 (.seq
 (.region false [
 oQ 4 (.load true 3 (.t 1)),
 ⟨some 5, .call false (.c (.fn 9 [] [])) [.t 4], none⟩,
 oQ 6 (.un .not (.t 5))])
 (.cond (.t 6)
 (.seq
 (.region false [
 oQ 2 (.mov (.c (.str [])))])
 .ret)
 .skip))
 (.seq
 (.region false [
 oQ 7 (.faddr 1 (.t 1)),
 oQ 8 (.load false 1 (.t 7)),
 ⟨some 9, .call false (.c (.fn 16 [] [])) [.t 8], none⟩,
 oQ 3 (.mov (.t 9))])
 (.seq
 (.seq
 (.region false [
 oQ 10 (.faddr 0 (.t 1)),
 oQ 11 (.load false 1 (.t 10))])
 (.cond (.t 11)
 (.region false [
 oQ 12 (.mov (.t 3)),
 oQ 13 (.bin 0 .add (.c (.str [194, 175])) (.t 12)),
 oQ 3 (.mov (.t 13))])
 .skip))
 (.seq
 (.seq
 (.region true [
 oQ 14 (.faddr 2 (.t 1)),
 oQ 15 (.load false 1 (.t 14)),
 ⟨some 16, .call true (.c (.fn 18 [] [])) [], none⟩,
 ⟨some 17, .call false (.c (.fn 17 [] [])) [.t 15, .t 16], none⟩,
 oQ 18 (.un .not (.t 17))])
 (.cond (.t 18)
 (.region false [
 oQ 19 (.mov (.t 3)),
 oQ 20 (.faddr 2 (.t 1)),
 oQ 21 (.load false 1 (.t 20)),
 ⟨some 22, .call false (.c (.fn 16 [] [])) [.t 21], none⟩,
 oQ 23 (.bin 0 .add (.c (.str [114])) (.t 22)),
 oQ 24 (.bin 0 .add (.t 19) (.t 23)),
 oQ 3 (.mov (.t 24))])
 .skip))
 (.seq
 (.region false [
 oQ 25 (.mov (.t 3)),
 oQ 2 (.mov (.t 25))])
 .ret))))))
def c8 : CF := ⟨26, 1, [.mov (.t 2)], b8⟩
theorem s8 : stripF Go.Proofs.Try.prog 8 = some c8 := by kernel_rfl

/-- Is a number right? -/
def rightR (b : Bool) (num den : List Nat) : Bool :=
  decide (num.length = (cut num).length) && decide (den.length = (cut den).length) && decide (num.length ≤ 32) && decide (den.length ≤ 32) && decide (den.length ≠ 0) && (decide (num.length ≠ 0) || !b) && decide (Nat.gcd (val num) (val den) = 1)

theorem good19g (ex : Bool) (l : List Nat) (hlen : l.length ≤ 9223372036854775807) : Good Go.Proofs.Try.prog 19 [nsl ex l] (.bool (decide (l.length = (cut l).length))) := by
  refine good_of_run mix s19 (Nat.le_of_ble_eq_true rfl) ?_
  rw [run_go]
  simp only [c19,b19, oQ]
  have hc := cut_len l
  have hg := good36 ex l hlen
  simp -implicitDefEqProofs (disch := omega) only [↓ZD,ZP,cnd_t,cnd_f,↓reduceIte,Env.put,stepO,lenV,binV,binInt,unV,loadV,sliceV,boundOf,convV,slstrV,if_pos,if_neg,Int.reduceToNat,Nat.reducePow,V.cells,V.isCell,V.boxable,Nat.reduceEqDiff,reduceCtorEq,reduceIte,ite_self,enterEnv,nsl]
  refine calP_ro (by simp only [roL,V.ro,nl_ro]; rfl) hg (by simp only [nsl,V.ro,nl_ro]) ?_
  simp -implicitDefEqProofs (disch := omega) only [↓ZD,ZP,cnd_t,cnd_f,↓reduceIte,Env.put,stepO,lenV,binV,binInt,unV,loadV,sliceV,boundOf,convV,slstrV,if_pos,if_neg,Int.reduceToNat,Nat.reducePow,V.cells,V.isCell,V.boxable,Nat.reduceEqDiff,reduceCtorEq,reduceIte,ite_self,enterEnv,nsl]
  refine gives_eq rfl ?_
  simp only [V.weak,V.bool.injEq]
  rw [Bool.eq_iff_iff, decide_eq_true_iff, beq_iff_eq]
  omega

theorem good17f (ea eb : Bool) (l m : List Nat) (hl : l.length ≤ 1100000) (hm : m.length ≤ 1100000) : Good Go.Proofs.Try.prog 17 [nsl ea l, nsl eb m] (.bool (decide (l = m))) := by
  refine good_go mix s17 (Nat.le_of_ble_eq_true rfl) fun e he => ?_
  have e0 : e 0 = nsl ea l := he 0
  have e1 : e 1 = nsl eb m := he 1
  clear he
  simp only [c17,b17, oQ]
  by_cases hlm : l.length = m.length
  · simp -implicitDefEqProofs (disch := omega) only [↓ZD,ZP,cnd_t,cnd_f,↓reduceIte,Env.put,stepO,lenV,binV,binInt,unV,loadV,sliceV,boundOf,convV,slstrV,if_pos,if_neg,Int.reduceToNat,Nat.reducePow,V.cells,V.isCell,V.boxable,Nat.reduceEqDiff,reduceCtorEq,reduceIte,ite_self,enterEnv,e0,e1,nsl]
    refine go_loop (fun k e H => H = [] ∧ ∃ i, i ≤ l.length ∧ k = l.length - i ∧ l.take i = m.take i ∧ e 0 = .sl ea (nl l) l.length ∧ e 1 = .sl eb (nl m) m.length ∧ e 12 = .int .i64 (l.length : Nat) ∧ e 13 = .int .i64 (i : Nat))
      l.length ⟨rfl, 0, Nat.zero_le _, rfl, rfl, ?_, ?_, ?_, ?_⟩ ?_
    · simp [Env.set, e0, nsl]
    · simp [Env.set, e1, nsl]
    · simp [Env.set]
    · simp [Env.set]
    clear e0 e1
    rintro k e H ⟨rfl, i, hi, rfl, htk, e0, e1, e12, e13⟩
    rcases Nat.lt_or_ge i l.length with hlt | hge
    · have hat : (nl l)[i]? = some (limb l[i]) := nl_get (List.getElem?_eq_getElem hlt)
      have hat2 : (nl m)[i]? = some (limb (m[i]'(by omega))) := nl_get (List.getElem?_eq_getElem (by omega))
      by_cases hx : l[i] = m[i]'(by omega)
      · have htk' : l.take (i + 1) = m.take (i + 1) := by
          rw [List.take_add_one, List.take_add_one, htk, List.getElem?_eq_getElem hlt, List.getElem?_eq_getElem (show i < m.length by omega), hx]
        rw [← hx] at hat2
        generalize l[i] = x at *
        simp -implicitDefEqProofs (disch := omega) only [↓ZD,ZP,cnd_t,cnd_f,↓reduceIte,Env.put,stepO,lenV,binV,binInt,unV,loadV,sliceV,boundOf,convV,slstrV,if_pos,if_neg,Int.reduceToNat,Nat.reducePow,V.cells,V.isCell,V.boxable,Nat.reduceEqDiff,reduceCtorEq,reduceIte,ite_self,enterEnv,e0,e1,e12,e13,hat,hat2,limb]
        exact ⟨_, by omega, i + 1, by omega, rfl, htk', rfl⟩
      · have hne : decide (l = m) = false := by
          rw [decide_eq_false_iff_not]
          rintro rfl
          exact hx rfl
        rw [hne]
        have hxi : ((l[i] : Int) == ((m[i]'(by omega) : Nat) : Int)) = false := by
          rw [beq_eq_false_iff_ne]; omega
        have hxn : ((l[i] : Int) != ((m[i]'(by omega) : Nat) : Int)) = true := by
          rw [bne_iff_ne]; omega
        generalize l[i] = x at *
        generalize m[i]'(by omega) = y at *
        simp -implicitDefEqProofs (disch := omega) only [↓ZD,ZP,cnd_t,cnd_f,↓reduceIte,Env.put,stepO,lenV,binV,binInt,unV,loadV,sliceV,boundOf,convV,slstrV,if_pos,if_neg,Int.reduceToNat,Nat.reducePow,V.cells,V.isCell,V.boxable,Nat.reduceEqDiff,reduceCtorEq,reduceIte,ite_self,enterEnv,e0,e1,e12,e13,hat,hat2,limb,hxi,hxn]
        exact gives_eq rfl rfl
    · have : i = l.length := by omega
      subst this
      have heq : decide (l = m) = true := by
        rw [decide_eq_true_iff]
        rw [List.take_length] at htk
        rw [htk, List.take_of_length_le (by omega)]
      rw [heq]
      simp -implicitDefEqProofs (disch := omega) only [↓ZD,ZP,cnd_t,cnd_f,↓reduceIte,Env.put,stepO,lenV,binV,binInt,unV,loadV,sliceV,boundOf,convV,slstrV,if_pos,if_neg,Int.reduceToNat,Nat.reducePow,V.cells,V.isCell,V.boxable,Nat.reduceEqDiff,reduceCtorEq,reduceIte,ite_self,enterEnv,e0,e1,e12,e13]
      exact gives_eq rfl rfl
  · have hne : decide (l = m) = false := by
      rw [decide_eq_false_iff_not]
      rintro rfl
      exact hlm rfl
    rw [hne]
    have hxn : ((l.length : Int) != (m.length : Int)) = true := by rw [bne_iff_ne]; omega
    simp -implicitDefEqProofs (disch := omega) only [↓ZD,ZP,cnd_t,cnd_f,↓reduceIte,Env.put,stepO,lenV,binV,binInt,unV,loadV,sliceV,boundOf,convV,slstrV,if_pos,if_neg,Int.reduceToNat,Nat.reducePow,V.cells,V.isCell,V.boxable,Nat.reduceEqDiff,reduceCtorEq,reduceIte,ite_self,enterEnv,e0,e1,nsl,hxn]
    exact gives_eq rfl rfl

set_option maxHeartbeats 1000000 in
theorem good9 (b ea eb : Bool) (num den : List Nat) (hn : Lm num) (hd : Lm den) (hln : num.length ≤ 9223372036854775807) (hld : den.length ≤ 9223372036854775807) :
    Good Go.Proofs.Try.prog 9 [.agg [.bool b, nsl ea num, nsl eb den]] (.bool (rightR b num den)) := by
  have hgn := good19g ea num hln
  have hgd := good19g eb den hld
  refine good_go mix s9 (Nat.le_of_ble_eq_true rfl) fun e he => ?_
  have e0 : e 0 = .agg [.bool b, nsl ea num, nsl eb den] := he 0
  clear he
  simp only [c9,b9, oQ]
  have hro2 : roL [nsl ea num] = true := by simp [roL, nsl_ro]
  have hro3 : roL [nsl eb den] = true := by simp [roL, nsl_ro]
  by_cases c1 : num.length = (cut num).length
  · rw [decide_eq_true c1] at hgn
    by_cases c2 : den.length = (cut den).length
    · rw [decide_eq_true c2] at hgd
      by_cases c3 : num.length ≤ 32
      · by_cases c4 : den.length ≤ 32
        · by_cases c5 : den.length = 0
          · have hr : rightR b num den = false := by simp [rightR, c5]
            rw [hr]
            simp -implicitDefEqProofs (disch := omega) only [↓ZD,ZP,cnd_t,cnd_f,↓reduceIte,Env.put,stepO,lenV,binV,binInt,unV,loadV,sliceV,boundOf,convV,slstrV,if_pos,if_neg,Int.reduceToNat,Nat.reducePow,V.cells,V.isCell,V.boxable,Nat.reduceEqDiff,reduceCtorEq,reduceIte,ite_self,enterEnv,e0,fillL,evParts,splice,List.take_zero,List.take_succ_cons,List.drop_succ_cons,List.drop_zero,List.drop_nil,nsl]
            refine calP_ro hro2 hgn rfl ?_
            simp -implicitDefEqProofs (disch := omega) only [↓ZD,ZP,cnd_t,cnd_f,↓reduceIte,Env.put,stepO,lenV,binV,binInt,unV,loadV,sliceV,boundOf,convV,slstrV,if_pos,if_neg,Int.reduceToNat,Nat.reducePow,V.cells,V.isCell,V.boxable,Nat.reduceEqDiff,reduceCtorEq,reduceIte,ite_self,enterEnv,e0,fillL,evParts,splice,List.take_zero,List.take_succ_cons,List.drop_succ_cons,List.drop_zero,List.drop_nil,nsl]
            refine calP_ro hro3 hgd rfl ?_
            simp -implicitDefEqProofs (disch := omega) only [↓ZD,ZP,cnd_t,cnd_f,↓reduceIte,Env.put,stepO,lenV,binV,binInt,unV,loadV,sliceV,boundOf,convV,slstrV,if_pos,if_neg,Int.reduceToNat,Nat.reducePow,V.cells,V.isCell,V.boxable,Nat.reduceEqDiff,reduceCtorEq,reduceIte,ite_self,enterEnv,e0,fillL,evParts,splice,List.take_zero,List.take_succ_cons,List.drop_succ_cons,List.drop_zero,List.drop_nil,nsl]
            exact gives_eq rfl rfl
          · by_cases c6 : num.length = 0 ∧ b = true
            · obtain ⟨c6, rfl⟩ := c6
              have hr : rightR true num den = false := by simp [rightR, c6]
              rw [hr]
              simp -implicitDefEqProofs (disch := omega) only [↓ZD,ZP,cnd_t,cnd_f,↓reduceIte,Env.put,stepO,lenV,binV,binInt,unV,loadV,sliceV,boundOf,convV,slstrV,if_pos,if_neg,Int.reduceToNat,Nat.reducePow,V.cells,V.isCell,V.boxable,Nat.reduceEqDiff,reduceCtorEq,reduceIte,ite_self,enterEnv,e0,fillL,evParts,splice,List.take_zero,List.take_succ_cons,List.drop_succ_cons,List.drop_zero,List.drop_nil,nsl]
              refine calP_ro hro2 hgn rfl ?_
              simp -implicitDefEqProofs (disch := omega) only [↓ZD,ZP,cnd_t,cnd_f,↓reduceIte,Env.put,stepO,lenV,binV,binInt,unV,loadV,sliceV,boundOf,convV,slstrV,if_pos,if_neg,Int.reduceToNat,Nat.reducePow,V.cells,V.isCell,V.boxable,Nat.reduceEqDiff,reduceCtorEq,reduceIte,ite_self,enterEnv,e0,fillL,evParts,splice,List.take_zero,List.take_succ_cons,List.drop_succ_cons,List.drop_zero,List.drop_nil,nsl]
              refine calP_ro hro3 hgd rfl ?_
              simp -implicitDefEqProofs (disch := omega) only [↓ZD,ZP,cnd_t,cnd_f,↓reduceIte,Env.put,stepO,lenV,binV,binInt,unV,loadV,sliceV,boundOf,convV,slstrV,if_pos,if_neg,Int.reduceToNat,Nat.reducePow,V.cells,V.isCell,V.boxable,Nat.reduceEqDiff,reduceCtorEq,reduceIte,ite_self,enterEnv,e0,fillL,evParts,splice,List.take_zero,List.take_succ_cons,List.drop_succ_cons,List.drop_zero,List.drop_nil,nsl]
              exact gives_eq rfl rfl
            · have hr : rightR b num den = decide (Nat.gcd (val num) (val den) = 1) := by
                have : (decide (num.length ≠ 0) || !b) = true := by
                  cases b <;> simp at c6 ⊢
                  exact c6
                simp [rightR, ← c1, ← c2, c3, c4, c5]
                intro _
                simpa using this
              rw [hr]
              have hg := good20 true [(ea, num), (eb, den)] (by
                intro p hp
                rcases List.mem_cons.1 hp with rfl | hp
                · exact ⟨hn, by simp only; omega⟩
                · rw [List.mem_singleton.1 hp]; exact ⟨hd, by simp only; omega⟩) (by simp)
              have hgc : gcdL 0 [(ea, num), (eb, den)] = Nat.gcd (val num) (val den) := by simp [gcdL]
              rw [hgc] at hg
              have hge := good17f false false (lim (Nat.gcd (val num) (val den))) (lim 1) (by
                have h1 : Nat.gcd (val num) (val den) < 4294967296 ^ 32 := by
                  have h2 : val den < 4294967296 ^ den.length := val_lt hd
                  have h3 : 0 < val den := by
                    rcases Nat.eq_zero_or_pos (val den) with h0 | h0
                    · have := cut_lim hd
                      rw [h0, lim_zero] at this
                      rw [this] at c2
                      exact absurd c2 c5
                    · exact h0
                  exact Nat.lt_of_le_of_lt (Nat.gcd_le_right _ h3) (Nat.lt_of_lt_of_le h2 (Nat.pow_le_pow_right (by decide) c4))
                have := lim_len h1
                omega) (by rw [lim_one]; decide)
              have hgl : decide (lim (Nat.gcd (val num) (val den)) = lim 1) = decide (Nat.gcd (val num) (val den) = 1) := by
                rw [decide_eq_decide]
                constructor
                · intro h
                  have := congrArg val h
                  rwa [lim_val, lim_val] at this
                · intro h; rw [h]
              rw [hgl] at hge
              by_cases hz : num.length = 0
              · have hb : b = false := by
                  cases b
                  · rfl
                  · exact absurd ⟨hz, rfl⟩ c6
                subst hb
                simp -implicitDefEqProofs (disch := omega) only [↓ZD,ZP,cnd_t,cnd_f,↓reduceIte,Env.put,stepO,lenV,binV,binInt,unV,loadV,sliceV,boundOf,convV,slstrV,if_pos,if_neg,Int.reduceToNat,Nat.reducePow,V.cells,V.isCell,V.boxable,Nat.reduceEqDiff,reduceCtorEq,reduceIte,ite_self,enterEnv,e0,fillL,evParts,splice,List.take_zero,List.take_succ_cons,List.drop_succ_cons,List.drop_zero,List.drop_nil,nsl]
                refine calP_ro hro2 hgn rfl ?_
                simp -implicitDefEqProofs (disch := omega) only [↓ZD,ZP,cnd_t,cnd_f,↓reduceIte,Env.put,stepO,lenV,binV,binInt,unV,loadV,sliceV,boundOf,convV,slstrV,if_pos,if_neg,Int.reduceToNat,Nat.reducePow,V.cells,V.isCell,V.boxable,Nat.reduceEqDiff,reduceCtorEq,reduceIte,ite_self,enterEnv,e0,fillL,evParts,splice,List.take_zero,List.take_succ_cons,List.drop_succ_cons,List.drop_zero,List.drop_nil,nsl]
                refine calP_ro hro3 hgd rfl ?_
                simp -implicitDefEqProofs (disch := omega) only [↓ZD,ZP,cnd_t,cnd_f,↓reduceIte,Env.put,stepO,lenV,binV,binInt,unV,loadV,sliceV,boundOf,convV,slstrV,if_pos,if_neg,Int.reduceToNat,Nat.reducePow,V.cells,V.isCell,V.boxable,Nat.reduceEqDiff,reduceCtorEq,reduceIte,ite_self,enterEnv,e0,fillL,evParts,splice,List.take_zero,List.take_succ_cons,List.drop_succ_cons,List.drop_zero,List.drop_nil,nsl]
                refine calP_ro (by simp [roL, V.ro, nl_ro, nsl_ro, nf_ro, nls_ro]) hg (nf_ro _) ?_
                simp -implicitDefEqProofs (disch := omega) only [↓ZD,ZP,cnd_t,cnd_f,↓reduceIte,Env.put,stepO,lenV,binV,binInt,unV,loadV,sliceV,boundOf,convV,slstrV,if_pos,if_neg,Int.reduceToNat,Nat.reducePow,V.cells,V.isCell,V.boxable,Nat.reduceEqDiff,reduceCtorEq,reduceIte,ite_self,enterEnv,e0,fillL,evParts,splice,List.take_zero,List.take_succ_cons,List.drop_succ_cons,List.drop_zero,List.drop_nil,nsl]
                refine calP_ro (by simp [roL, V.ro, nl_ro, nsl_ro, nf_ro, nls_ro]) good18 (nf_ro _) ?_
                simp -implicitDefEqProofs (disch := omega) only [↓ZD,ZP,cnd_t,cnd_f,↓reduceIte,Env.put,stepO,lenV,binV,binInt,unV,loadV,sliceV,boundOf,convV,slstrV,if_pos,if_neg,Int.reduceToNat,Nat.reducePow,V.cells,V.isCell,V.boxable,Nat.reduceEqDiff,reduceCtorEq,reduceIte,ite_self,enterEnv,e0,fillL,evParts,splice,List.take_zero,List.take_succ_cons,List.drop_succ_cons,List.drop_zero,List.drop_nil,nsl]
                refine calP_ro (by simp [roL, V.ro, nl_ro, nsl_ro, nf_ro, nls_ro]) hge rfl ?_
                simp -implicitDefEqProofs (disch := omega) only [↓ZD,ZP,cnd_t,cnd_f,↓reduceIte,Env.put,stepO,lenV,binV,binInt,unV,loadV,sliceV,boundOf,convV,slstrV,if_pos,if_neg,Int.reduceToNat,Nat.reducePow,V.cells,V.isCell,V.boxable,Nat.reduceEqDiff,reduceCtorEq,reduceIte,ite_self,enterEnv,e0,fillL,evParts,splice,List.take_zero,List.take_succ_cons,List.drop_succ_cons,List.drop_zero,List.drop_nil,nsl]
                exact gives_eq rfl rfl
              · simp -implicitDefEqProofs (disch := omega) only [↓ZD,ZP,cnd_t,cnd_f,↓reduceIte,Env.put,stepO,lenV,binV,binInt,unV,loadV,sliceV,boundOf,convV,slstrV,if_pos,if_neg,Int.reduceToNat,Nat.reducePow,V.cells,V.isCell,V.boxable,Nat.reduceEqDiff,reduceCtorEq,reduceIte,ite_self,enterEnv,e0,fillL,evParts,splice,List.take_zero,List.take_succ_cons,List.drop_succ_cons,List.drop_zero,List.drop_nil,nsl]
                refine calP_ro hro2 hgn rfl ?_
                simp -implicitDefEqProofs (disch := omega) only [↓ZD,ZP,cnd_t,cnd_f,↓reduceIte,Env.put,stepO,lenV,binV,binInt,unV,loadV,sliceV,boundOf,convV,slstrV,if_pos,if_neg,Int.reduceToNat,Nat.reducePow,V.cells,V.isCell,V.boxable,Nat.reduceEqDiff,reduceCtorEq,reduceIte,ite_self,enterEnv,e0,fillL,evParts,splice,List.take_zero,List.take_succ_cons,List.drop_succ_cons,List.drop_zero,List.drop_nil,nsl]
                refine calP_ro hro3 hgd rfl ?_
                simp -implicitDefEqProofs (disch := omega) only [↓ZD,ZP,cnd_t,cnd_f,↓reduceIte,Env.put,stepO,lenV,binV,binInt,unV,loadV,sliceV,boundOf,convV,slstrV,if_pos,if_neg,Int.reduceToNat,Nat.reducePow,V.cells,V.isCell,V.boxable,Nat.reduceEqDiff,reduceCtorEq,reduceIte,ite_self,enterEnv,e0,fillL,evParts,splice,List.take_zero,List.take_succ_cons,List.drop_succ_cons,List.drop_zero,List.drop_nil,nsl]
                refine calP_ro (by simp [roL, V.ro, nl_ro, nsl_ro, nf_ro, nls_ro]) hg (nf_ro _) ?_
                simp -implicitDefEqProofs (disch := omega) only [↓ZD,ZP,cnd_t,cnd_f,↓reduceIte,Env.put,stepO,lenV,binV,binInt,unV,loadV,sliceV,boundOf,convV,slstrV,if_pos,if_neg,Int.reduceToNat,Nat.reducePow,V.cells,V.isCell,V.boxable,Nat.reduceEqDiff,reduceCtorEq,reduceIte,ite_self,enterEnv,e0,fillL,evParts,splice,List.take_zero,List.take_succ_cons,List.drop_succ_cons,List.drop_zero,List.drop_nil,nsl]
                refine calP_ro (by simp [roL, V.ro, nl_ro, nsl_ro, nf_ro, nls_ro]) good18 (nf_ro _) ?_
                simp -implicitDefEqProofs (disch := omega) only [↓ZD,ZP,cnd_t,cnd_f,↓reduceIte,Env.put,stepO,lenV,binV,binInt,unV,loadV,sliceV,boundOf,convV,slstrV,if_pos,if_neg,Int.reduceToNat,Nat.reducePow,V.cells,V.isCell,V.boxable,Nat.reduceEqDiff,reduceCtorEq,reduceIte,ite_self,enterEnv,e0,fillL,evParts,splice,List.take_zero,List.take_succ_cons,List.drop_succ_cons,List.drop_zero,List.drop_nil,nsl]
                refine calP_ro (by simp [roL, V.ro, nl_ro, nsl_ro, nf_ro, nls_ro]) hge rfl ?_
                simp -implicitDefEqProofs (disch := omega) only [↓ZD,ZP,cnd_t,cnd_f,↓reduceIte,Env.put,stepO,lenV,binV,binInt,unV,loadV,sliceV,boundOf,convV,slstrV,if_pos,if_neg,Int.reduceToNat,Nat.reducePow,V.cells,V.isCell,V.boxable,Nat.reduceEqDiff,reduceCtorEq,reduceIte,ite_self,enterEnv,e0,fillL,evParts,splice,List.take_zero,List.take_succ_cons,List.drop_succ_cons,List.drop_zero,List.drop_nil,nsl]
                exact gives_eq rfl rfl
        · have hr : rightR b num den = false := by simp [rightR, c4]
          rw [hr]
          simp -implicitDefEqProofs (disch := omega) only [↓ZD,ZP,cnd_t,cnd_f,↓reduceIte,Env.put,stepO,lenV,binV,binInt,unV,loadV,sliceV,boundOf,convV,slstrV,if_pos,if_neg,Int.reduceToNat,Nat.reducePow,V.cells,V.isCell,V.boxable,Nat.reduceEqDiff,reduceCtorEq,reduceIte,ite_self,enterEnv,e0,fillL,evParts,splice,List.take_zero,List.take_succ_cons,List.drop_succ_cons,List.drop_zero,List.drop_nil,nsl]
          refine calP_ro hro2 hgn rfl ?_
          simp -implicitDefEqProofs (disch := omega) only [↓ZD,ZP,cnd_t,cnd_f,↓reduceIte,Env.put,stepO,lenV,binV,binInt,unV,loadV,sliceV,boundOf,convV,slstrV,if_pos,if_neg,Int.reduceToNat,Nat.reducePow,V.cells,V.isCell,V.boxable,Nat.reduceEqDiff,reduceCtorEq,reduceIte,ite_self,enterEnv,e0,fillL,evParts,splice,List.take_zero,List.take_succ_cons,List.drop_succ_cons,List.drop_zero,List.drop_nil,nsl]
          refine calP_ro hro3 hgd rfl ?_
          simp -implicitDefEqProofs (disch := omega) only [↓ZD,ZP,cnd_t,cnd_f,↓reduceIte,Env.put,stepO,lenV,binV,binInt,unV,loadV,sliceV,boundOf,convV,slstrV,if_pos,if_neg,Int.reduceToNat,Nat.reducePow,V.cells,V.isCell,V.boxable,Nat.reduceEqDiff,reduceCtorEq,reduceIte,ite_self,enterEnv,e0,fillL,evParts,splice,List.take_zero,List.take_succ_cons,List.drop_succ_cons,List.drop_zero,List.drop_nil,nsl]
          exact gives_eq rfl rfl
      · have hr : rightR b num den = false := by simp [rightR, c3]
        rw [hr]
        simp -implicitDefEqProofs (disch := omega) only [↓ZD,ZP,cnd_t,cnd_f,↓reduceIte,Env.put,stepO,lenV,binV,binInt,unV,loadV,sliceV,boundOf,convV,slstrV,if_pos,if_neg,Int.reduceToNat,Nat.reducePow,V.cells,V.isCell,V.boxable,Nat.reduceEqDiff,reduceCtorEq,reduceIte,ite_self,enterEnv,e0,fillL,evParts,splice,List.take_zero,List.take_succ_cons,List.drop_succ_cons,List.drop_zero,List.drop_nil,nsl]
        refine calP_ro hro2 hgn rfl ?_
        simp -implicitDefEqProofs (disch := omega) only [↓ZD,ZP,cnd_t,cnd_f,↓reduceIte,Env.put,stepO,lenV,binV,binInt,unV,loadV,sliceV,boundOf,convV,slstrV,if_pos,if_neg,Int.reduceToNat,Nat.reducePow,V.cells,V.isCell,V.boxable,Nat.reduceEqDiff,reduceCtorEq,reduceIte,ite_self,enterEnv,e0,fillL,evParts,splice,List.take_zero,List.take_succ_cons,List.drop_succ_cons,List.drop_zero,List.drop_nil,nsl]
        refine calP_ro hro3 hgd rfl ?_
        simp -implicitDefEqProofs (disch := omega) only [↓ZD,ZP,cnd_t,cnd_f,↓reduceIte,Env.put,stepO,lenV,binV,binInt,unV,loadV,sliceV,boundOf,convV,slstrV,if_pos,if_neg,Int.reduceToNat,Nat.reducePow,V.cells,V.isCell,V.boxable,Nat.reduceEqDiff,reduceCtorEq,reduceIte,ite_self,enterEnv,e0,fillL,evParts,splice,List.take_zero,List.take_succ_cons,List.drop_succ_cons,List.drop_zero,List.drop_nil,nsl]
        exact gives_eq rfl rfl
    · rw [decide_eq_false c2] at hgd
      have hr : rightR b num den = false := by simp [rightR, c2]
      rw [hr]
      simp -implicitDefEqProofs (disch := omega) only [↓ZD,ZP,cnd_t,cnd_f,↓reduceIte,Env.put,stepO,lenV,binV,binInt,unV,loadV,sliceV,boundOf,convV,slstrV,if_pos,if_neg,Int.reduceToNat,Nat.reducePow,V.cells,V.isCell,V.boxable,Nat.reduceEqDiff,reduceCtorEq,reduceIte,ite_self,enterEnv,e0,fillL,evParts,splice,List.take_zero,List.take_succ_cons,List.drop_succ_cons,List.drop_zero,List.drop_nil,nsl]
      refine calP_ro hro2 hgn rfl ?_
      simp -implicitDefEqProofs (disch := omega) only [↓ZD,ZP,cnd_t,cnd_f,↓reduceIte,Env.put,stepO,lenV,binV,binInt,unV,loadV,sliceV,boundOf,convV,slstrV,if_pos,if_neg,Int.reduceToNat,Nat.reducePow,V.cells,V.isCell,V.boxable,Nat.reduceEqDiff,reduceCtorEq,reduceIte,ite_self,enterEnv,e0,fillL,evParts,splice,List.take_zero,List.take_succ_cons,List.drop_succ_cons,List.drop_zero,List.drop_nil,nsl]
      refine calP_ro hro3 hgd rfl ?_
      simp -implicitDefEqProofs (disch := omega) only [↓ZD,ZP,cnd_t,cnd_f,↓reduceIte,Env.put,stepO,lenV,binV,binInt,unV,loadV,sliceV,boundOf,convV,slstrV,if_pos,if_neg,Int.reduceToNat,Nat.reducePow,V.cells,V.isCell,V.boxable,Nat.reduceEqDiff,reduceCtorEq,reduceIte,ite_self,enterEnv,e0,fillL,evParts,splice,List.take_zero,List.take_succ_cons,List.drop_succ_cons,List.drop_zero,List.drop_nil,nsl]
      exact gives_eq rfl rfl
  · rw [decide_eq_false c1] at hgn
    have hr : rightR b num den = false := by simp [rightR, c1]
    rw [hr]
    simp -implicitDefEqProofs (disch := omega) only [↓ZD,ZP,cnd_t,cnd_f,↓reduceIte,Env.put,stepO,lenV,binV,binInt,unV,loadV,sliceV,boundOf,convV,slstrV,if_pos,if_neg,Int.reduceToNat,Nat.reducePow,V.cells,V.isCell,V.boxable,Nat.reduceEqDiff,reduceCtorEq,reduceIte,ite_self,enterEnv,e0,fillL,evParts,splice,List.take_zero,List.take_succ_cons,List.drop_succ_cons,List.drop_zero,List.drop_nil,nsl]
    refine calP_ro hro2 hgn rfl ?_
    simp -implicitDefEqProofs (disch := omega) only [↓ZD,ZP,cnd_t,cnd_f,↓reduceIte,Env.put,stepO,lenV,binV,binInt,unV,loadV,sliceV,boundOf,convV,slstrV,if_pos,if_neg,Int.reduceToNat,Nat.reducePow,V.cells,V.isCell,V.boxable,Nat.reduceEqDiff,reduceCtorEq,reduceIte,ite_self,enterEnv,e0,fillL,evParts,splice,List.take_zero,List.take_succ_cons,List.drop_succ_cons,List.drop_zero,List.drop_nil,nsl]
    exact gives_eq rfl rfl
end Fe
open Go Go.Proofs
namespace Fe
/-- A number's text. -/
def printR (b : Bool) (n d : Nat) : List UInt8 := (if b = true then [194, 175] else []) ++ printN n ++ (if d = 1 then [] else 114 :: printN d)

theorem cut_eq_self {l : List Nat} (h : l.length = (cut l).length) : cut l = l := by
  rcases List.eq_nil_or_concat l with rfl | ⟨r, x, rfl⟩
  · rfl
  · rw [List.concat_eq_append] at h ⊢
    rw [cut_last] at h ⊢
    split at h
    · have := cut_len r
      simp at h
      omega
    · rename_i hx
      rw [if_neg hx]
theorem lim_dec {n c : Nat} (h : (lim n).length ≤ c) : (decR n).length ≤ 10 * c := by
  have h1 : n < 4294967296 ^ (lim n).length := by
    have := val_lt (lim_lm n)
    rwa [lim_val] at this
  refine dec_len (Nat.lt_of_lt_of_le h1 ?_)
  rw [Nat.pow_mul]
  exact Nat.le_trans (Nat.pow_le_pow_right (by decide) h) (Nat.pow_le_pow_left (by decide) c)
theorem print_len {n c : Nat} (h : (lim n).length ≤ c) (hc : 1 ≤ c) : (printN n).length ≤ 10 * c := by
  unfold printN
  split
  · simp; omega
  · rw [List.length_reverse]; exact lim_dec h
theorem right_ok {b : Bool} {num den : List Nat} (hn : Lm num) (hd : Lm den) (h : rightR b num den = true) : num = lim (val num) ∧ den = lim (val den) ∧ NumOK b (val num) (val den) := by
  simp only [rightR,Bool.and_eq_true,Bool.or_eq_true,decide_eq_true_eq,Bool.not_eq_true'] at h
  obtain ⟨⟨⟨⟨⟨⟨h1, h2⟩, h3⟩, h4⟩, h5⟩, h6⟩, h7⟩ := h
  have e1 : num = lim (val num) := by
    rw [← cut_lim hn]
    exact (cut_eq_self h1).symm
  have e2 : den = lim (val den) := by
    rw [← cut_lim hd]
    exact (cut_eq_self h2).symm
  refine ⟨e1, e2, by rw [← e1]; exact h3, by rw [← e2]; exact h4, ?_, ?_, h7⟩
  · intro h0
    rw [h0, lim_zero] at e2
    exact h5 (by rw [e2]; rfl)
  · intro h0
    rcases h6 with h6 | h6
    · rw [h0, lim_zero] at e1
      exact absurd (by rw [e1]; rfl) h6
    · exact h6

theorem good8 (b ea eb : Bool) (num den : List Nat) (hn : Lm num) (hd : Lm den) (hln : num.length ≤ 9223372036854775807) (hld : den.length ≤ 9223372036854775807) :
    Good Go.Proofs.Try.prog 8 [.agg [.bool b, nsl ea num, nsl eb den]] (.str (if rightR b num den = true then printR b (val num) (val den) else [])) := by
  have h9 := good9 b ea eb num den hn hd hln hld
  refine good_go mix s8 (Nat.le_of_ble_eq_true rfl) fun e he => ?_
  have e0 : e 0 = .agg [.bool b, nsl ea num, nsl eb den] := he 0
  clear he
  simp only [c8,b8, oQ]
  have hro : roL [V.agg [.bool b, nsl ea num, nsl eb den]] = true := by simp [roL, V.ro, nsl_ro]
  by_cases hr : rightR b num den = true
  · rw [if_pos hr]
    rw [hr] at h9
    obtain ⟨e1, e2, h1, h2, h3, h4, h5⟩ := right_ok hn hd hr
    have ln : num.length ≤ 32 := by rw [e1]; exact h1
    have ld : den.length ≤ 32 := by rw [e2]; exact h2
    have hpn := good16 ea num hn (by omega)
    have hpd := good16 eb den hd (by omega)
    have h17 := good17f eb false den (lim 1) (by omega) (by rw [lim_one]; decide)
    have hl1 : decide (den = lim 1) = decide (val den = 1) := by
      rw [decide_eq_decide]
      constructor
      · intro h; rw [h, lim_val]
      · intro h; rw [e2, h]
    rw [hl1] at h17
    have bn : (printN (val num)).length ≤ 320 := print_len (c := 32) h1 (by decide)
    have bd : (printN (val den)).length ≤ 320 := print_len (c := 32) h2 (by decide)
    generalize hpn' : printN (val num) = pn at *
    generalize hpd' : printN (val den) = pd at *
    have hro1 : roL [nsl ea num] = true := by simp [roL, nsl_ro]
    have hro2 : roL [nsl eb den] = true := by simp [roL, nsl_ro]
    have hro3 : roL [nsl eb den, nf (lim 1)] = true := by simp [roL, nsl_ro, nf_ro]
    have two : (194 : UInt8) :: 175 :: pn = [194, 175] ++ pn := rfl
    cases b with
    | true =>
      by_cases hd1 : val den = 1
      · rw [decide_eq_true hd1] at h17
        simp -implicitDefEqProofs (disch := omega) only [↓ZD,ZP,cnd_t,cnd_f,↓reduceIte,Env.put,stepO,lenV,binV,binInt,unV,loadV,sliceV,boundOf,convV,slstrV,if_pos,if_neg,Int.reduceToNat,Nat.reducePow,V.cells,V.isCell,V.boxable,Nat.reduceEqDiff,reduceCtorEq,reduceIte,ite_self,enterEnv,e0,nsl]
        refine calP_ro hro h9 rfl ?_
        simp -implicitDefEqProofs (disch := omega) only [↓ZD,ZP,cnd_t,cnd_f,↓reduceIte,Env.put,stepO,lenV,binV,binInt,unV,loadV,sliceV,boundOf,convV,slstrV,if_pos,if_neg,Int.reduceToNat,Nat.reducePow,V.cells,V.isCell,V.boxable,Nat.reduceEqDiff,reduceCtorEq,reduceIte,ite_self,enterEnv,e0,nsl]
        refine calP_ro hro1 hpn rfl ?_
        simp -implicitDefEqProofs (disch := omega) only [↓ZD,ZP,cnd_t,cnd_f,↓reduceIte,Env.put,stepO,lenV,binV,binInt,unV,loadV,sliceV,boundOf,convV,slstrV,if_pos,if_neg,Int.reduceToNat,Nat.reducePow,V.cells,V.isCell,V.boxable,Nat.reduceEqDiff,reduceCtorEq,reduceIte,ite_self,enterEnv,e0,nsl,binStr]
        refine calD_ro rfl good18 (nf_ro _) ?_
        simp -implicitDefEqProofs (disch := omega) only [↓ZD,ZP,cnd_t,cnd_f,↓reduceIte,Env.put,stepO,lenV,binV,binInt,unV,loadV,sliceV,boundOf,convV,slstrV,if_pos,if_neg,Int.reduceToNat,Nat.reducePow,V.cells,V.isCell,V.boxable,Nat.reduceEqDiff,reduceCtorEq,reduceIte,ite_self,enterEnv,e0,nsl,binStr]
        refine calP_ro hro3 h17 rfl ?_
        simp -implicitDefEqProofs (disch := omega) only [↓ZD,ZP,cnd_t,cnd_f,↓reduceIte,Env.put,stepO,lenV,binV,binInt,unV,loadV,sliceV,boundOf,convV,slstrV,if_pos,if_neg,Int.reduceToNat,Nat.reducePow,V.cells,V.isCell,V.boxable,Nat.reduceEqDiff,reduceCtorEq,reduceIte,ite_self,enterEnv,e0,nsl,binStr]
        refine gives_eq rfl ?_
        simp [printR, hpn', hd1, V.weak]
      · rw [decide_eq_false hd1] at h17
        simp -implicitDefEqProofs (disch := omega) only [↓ZD,ZP,cnd_t,cnd_f,↓reduceIte,Env.put,stepO,lenV,binV,binInt,unV,loadV,sliceV,boundOf,convV,slstrV,if_pos,if_neg,Int.reduceToNat,Nat.reducePow,V.cells,V.isCell,V.boxable,Nat.reduceEqDiff,reduceCtorEq,reduceIte,ite_self,enterEnv,e0,nsl]
        refine calP_ro hro h9 rfl ?_
        simp -implicitDefEqProofs (disch := omega) only [↓ZD,ZP,cnd_t,cnd_f,↓reduceIte,Env.put,stepO,lenV,binV,binInt,unV,loadV,sliceV,boundOf,convV,slstrV,if_pos,if_neg,Int.reduceToNat,Nat.reducePow,V.cells,V.isCell,V.boxable,Nat.reduceEqDiff,reduceCtorEq,reduceIte,ite_self,enterEnv,e0,nsl]
        refine calP_ro hro1 hpn rfl ?_
        simp -implicitDefEqProofs (disch := omega) only [↓ZD,ZP,cnd_t,cnd_f,↓reduceIte,Env.put,stepO,lenV,binV,binInt,unV,loadV,sliceV,boundOf,convV,slstrV,if_pos,if_neg,Int.reduceToNat,Nat.reducePow,V.cells,V.isCell,V.boxable,Nat.reduceEqDiff,reduceCtorEq,reduceIte,ite_self,enterEnv,e0,nsl,binStr]
        refine calD_ro rfl good18 (nf_ro _) ?_
        simp -implicitDefEqProofs (disch := omega) only [↓ZD,ZP,cnd_t,cnd_f,↓reduceIte,Env.put,stepO,lenV,binV,binInt,unV,loadV,sliceV,boundOf,convV,slstrV,if_pos,if_neg,Int.reduceToNat,Nat.reducePow,V.cells,V.isCell,V.boxable,Nat.reduceEqDiff,reduceCtorEq,reduceIte,ite_self,enterEnv,e0,nsl,binStr]
        refine calP_ro hro3 h17 rfl ?_
        simp -implicitDefEqProofs (disch := omega) only [↓ZD,ZP,cnd_t,cnd_f,↓reduceIte,Env.put,stepO,lenV,binV,binInt,unV,loadV,sliceV,boundOf,convV,slstrV,if_pos,if_neg,Int.reduceToNat,Nat.reducePow,V.cells,V.isCell,V.boxable,Nat.reduceEqDiff,reduceCtorEq,reduceIte,ite_self,enterEnv,e0,nsl,binStr]
        refine calP_ro hro2 hpd rfl ?_
        simp -implicitDefEqProofs (disch := omega) only [↓ZD,ZP,cnd_t,cnd_f,↓reduceIte,Env.put,stepO,lenV,binV,binInt,unV,loadV,sliceV,boundOf,convV,slstrV,if_pos,if_neg,Int.reduceToNat,Nat.reducePow,V.cells,V.isCell,V.boxable,Nat.reduceEqDiff,reduceCtorEq,reduceIte,ite_self,enterEnv,e0,nsl,binStr]
        refine gives_eq rfl ?_
        simp [printR, hpn', hpd', hd1, V.weak]
    | false =>
      by_cases hd1 : val den = 1
      · rw [decide_eq_true hd1] at h17
        simp -implicitDefEqProofs (disch := omega) only [↓ZD,ZP,cnd_t,cnd_f,↓reduceIte,Env.put,stepO,lenV,binV,binInt,unV,loadV,sliceV,boundOf,convV,slstrV,if_pos,if_neg,Int.reduceToNat,Nat.reducePow,V.cells,V.isCell,V.boxable,Nat.reduceEqDiff,reduceCtorEq,reduceIte,ite_self,enterEnv,e0,nsl]
        refine calP_ro hro h9 rfl ?_
        simp -implicitDefEqProofs (disch := omega) only [↓ZD,ZP,cnd_t,cnd_f,↓reduceIte,Env.put,stepO,lenV,binV,binInt,unV,loadV,sliceV,boundOf,convV,slstrV,if_pos,if_neg,Int.reduceToNat,Nat.reducePow,V.cells,V.isCell,V.boxable,Nat.reduceEqDiff,reduceCtorEq,reduceIte,ite_self,enterEnv,e0,nsl]
        refine calP_ro hro1 hpn rfl ?_
        simp -implicitDefEqProofs (disch := omega) only [↓ZD,ZP,cnd_t,cnd_f,↓reduceIte,Env.put,stepO,lenV,binV,binInt,unV,loadV,sliceV,boundOf,convV,slstrV,if_pos,if_neg,Int.reduceToNat,Nat.reducePow,V.cells,V.isCell,V.boxable,Nat.reduceEqDiff,reduceCtorEq,reduceIte,ite_self,enterEnv,e0,nsl,binStr]
        refine calD_ro rfl good18 (nf_ro _) ?_
        simp -implicitDefEqProofs (disch := omega) only [↓ZD,ZP,cnd_t,cnd_f,↓reduceIte,Env.put,stepO,lenV,binV,binInt,unV,loadV,sliceV,boundOf,convV,slstrV,if_pos,if_neg,Int.reduceToNat,Nat.reducePow,V.cells,V.isCell,V.boxable,Nat.reduceEqDiff,reduceCtorEq,reduceIte,ite_self,enterEnv,e0,nsl,binStr]
        refine calP_ro hro3 h17 rfl ?_
        simp -implicitDefEqProofs (disch := omega) only [↓ZD,ZP,cnd_t,cnd_f,↓reduceIte,Env.put,stepO,lenV,binV,binInt,unV,loadV,sliceV,boundOf,convV,slstrV,if_pos,if_neg,Int.reduceToNat,Nat.reducePow,V.cells,V.isCell,V.boxable,Nat.reduceEqDiff,reduceCtorEq,reduceIte,ite_self,enterEnv,e0,nsl,binStr]
        refine gives_eq rfl ?_
        simp [printR, hpn', hd1, V.weak]
      · rw [decide_eq_false hd1] at h17
        simp -implicitDefEqProofs (disch := omega) only [↓ZD,ZP,cnd_t,cnd_f,↓reduceIte,Env.put,stepO,lenV,binV,binInt,unV,loadV,sliceV,boundOf,convV,slstrV,if_pos,if_neg,Int.reduceToNat,Nat.reducePow,V.cells,V.isCell,V.boxable,Nat.reduceEqDiff,reduceCtorEq,reduceIte,ite_self,enterEnv,e0,nsl]
        refine calP_ro hro h9 rfl ?_
        simp -implicitDefEqProofs (disch := omega) only [↓ZD,ZP,cnd_t,cnd_f,↓reduceIte,Env.put,stepO,lenV,binV,binInt,unV,loadV,sliceV,boundOf,convV,slstrV,if_pos,if_neg,Int.reduceToNat,Nat.reducePow,V.cells,V.isCell,V.boxable,Nat.reduceEqDiff,reduceCtorEq,reduceIte,ite_self,enterEnv,e0,nsl]
        refine calP_ro hro1 hpn rfl ?_
        simp -implicitDefEqProofs (disch := omega) only [↓ZD,ZP,cnd_t,cnd_f,↓reduceIte,Env.put,stepO,lenV,binV,binInt,unV,loadV,sliceV,boundOf,convV,slstrV,if_pos,if_neg,Int.reduceToNat,Nat.reducePow,V.cells,V.isCell,V.boxable,Nat.reduceEqDiff,reduceCtorEq,reduceIte,ite_self,enterEnv,e0,nsl,binStr]
        refine calD_ro rfl good18 (nf_ro _) ?_
        simp -implicitDefEqProofs (disch := omega) only [↓ZD,ZP,cnd_t,cnd_f,↓reduceIte,Env.put,stepO,lenV,binV,binInt,unV,loadV,sliceV,boundOf,convV,slstrV,if_pos,if_neg,Int.reduceToNat,Nat.reducePow,V.cells,V.isCell,V.boxable,Nat.reduceEqDiff,reduceCtorEq,reduceIte,ite_self,enterEnv,e0,nsl,binStr]
        refine calP_ro hro3 h17 rfl ?_
        simp -implicitDefEqProofs (disch := omega) only [↓ZD,ZP,cnd_t,cnd_f,↓reduceIte,Env.put,stepO,lenV,binV,binInt,unV,loadV,sliceV,boundOf,convV,slstrV,if_pos,if_neg,Int.reduceToNat,Nat.reducePow,V.cells,V.isCell,V.boxable,Nat.reduceEqDiff,reduceCtorEq,reduceIte,ite_self,enterEnv,e0,nsl,binStr]
        refine calP_ro hro2 hpd rfl ?_
        simp -implicitDefEqProofs (disch := omega) only [↓ZD,ZP,cnd_t,cnd_f,↓reduceIte,Env.put,stepO,lenV,binV,binInt,unV,loadV,sliceV,boundOf,convV,slstrV,if_pos,if_neg,Int.reduceToNat,Nat.reducePow,V.cells,V.isCell,V.boxable,Nat.reduceEqDiff,reduceCtorEq,reduceIte,ite_self,enterEnv,e0,nsl,binStr]
        refine gives_eq rfl ?_
        simp [printR, hpn', hpd', hd1, V.weak]
  · rw [if_neg hr]
    have hr' : rightR b num den = false := by simpa using hr
    rw [hr'] at h9
    simp -implicitDefEqProofs (disch := omega) only [↓ZD,ZP,cnd_t,cnd_f,↓reduceIte,Env.put,stepO,lenV,binV,binInt,unV,loadV,sliceV,boundOf,convV,slstrV,if_pos,if_neg,Int.reduceToNat,Nat.reducePow,V.cells,V.isCell,V.boxable,Nat.reduceEqDiff,reduceCtorEq,reduceIte,ite_self,enterEnv,e0,nsl]
    refine calP_ro hro h9 rfl ?_
    simp -implicitDefEqProofs (disch := omega) only [↓ZD,ZP,cnd_t,cnd_f,↓reduceIte,Env.put,stepO,lenV,binV,binInt,unV,loadV,sliceV,boundOf,convV,slstrV,if_pos,if_neg,Int.reduceToNat,Nat.reducePow,V.cells,V.isCell,V.boxable,Nat.reduceEqDiff,reduceCtorEq,reduceIte,ite_self,enterEnv,e0,nsl]
    exact gives_eq rfl rfl
end Fe
