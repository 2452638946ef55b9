/-
  Contracts: limbs. No condition.
-/
import Derived.Test.YtjgjfabmakkooaaFeX
import Derived.Test.YtjgjfabmakkooaaProg
set_option linter.unusedSimpArgs false
set_option linter.unusedVariables false
open Go Go.Proofs
namespace Fe
def b36 : C :=
 (.seq
 (.region false [
 oQ 2 (.mov (.c (.sl true [] 0)))])
 (.seq
 (.block 0
 (.loop
 (.seq
 (.seq
 (.region false [
 oQ 3 (.mov (.t 0)),
 oQ 4 (.len false (.t 3)),
 oQ 5 (.bin 0 .gtr (.t 4) (.c (.int .i64 0))),
 oQ 6 (.mov (.t 5)),
 ⟨some 7, .op (.mov (.t 0)), some (6, true)⟩,
 ⟨some 8, .op (.mov (.t 0)), some (6, true)⟩,
 ⟨some 9, .op (.len false (.t 8)), some (6, true)⟩,
 ⟨some 10, .op (.bin 0 .sub (.t 9) (.c (.int .i64 1))), some (6, true)⟩,
 ⟨some 11, .op (.iaddr 1 (.t 7) (.t 10)), some (6, true)⟩,
 ⟨some 12, .op (.load false 1 (.t 11)), some (6, true)⟩,
 ⟨some 13, .op (.bin 0 .eql (.t 12) (.c (.int .u32 0))), some (6, true)⟩,
 oQ 14 (.pick (.t 6) (.t 13) (.c (.bool false)))])
 (.cond (.t 14)
 .skip
 (.exit 0)))
 (.block 1
 (.region false [
 oQ 15 (.mov (.t 0)),
 oQ 16 (.mov (.t 0)),
 oQ 17 (.len false (.t 16)),
 oQ 18 (.bin 0 .sub (.t 17) (.c (.int .i64 1))),
 oQ 19 (.mov (.t 0)),
 oQ 20 (.len false (.t 19)),
 oQ 21 (.bin 0 .sub (.t 20) (.c (.int .i64 1))),
 oQ 22 (.slice 1 (.t 15) none (some (.t 18)) (some (.t 21))),
 oQ 0 (.mov (.t 22))])))))
 (.seq
 (.region false [
 oQ 23 (.mov (.t 0)),
 oQ 2 (.mov (.t 23))])
 .ret)))
def c36 : CF := ⟨24, 1, [.mov (.t 2)], b36⟩
def b60 : C :=
 (.seq
 (.region false [
 oQ 2 (.mov (.c (.sl true [] 0)))])
 (.seq
 (.seq
 (.region false [
 oQ 3 (.mov (.t 0)),
 oQ 4 (.isnil false (.t 3))])
 (.cond (.t 4)
 (.seq
 (.region false [
 oQ 2 (.mov (.c (.sl true [] 0)))])
 .ret)
 .skip))
 (.seq
 (.region false [
 oQ 5 (.mksl [] 0 []),
 oQ 6 (.mov (.t 0)),
 oQ 7 (.append 1 4 (.t 5) (.t 6)),
 oQ 2 (.mov (.t 7))])
 .ret)))
def c60 : CF := ⟨8, 1, [.mov (.t 2)], b60⟩
def b32 : C :=
 (.seq
 (.region false [
 oQ 2 (.mov (.c (.sl true [] 0)))])
 (.seq
 (.region false [
 oQ 3 (.mov (.t 0)),
 ⟨some 4, .call false (.c (.fn 36 [] [])) [.t 3], none⟩,
 ⟨some 5, .call false (.c (.fn 60 [] [])) [.t 4], none⟩,
 oQ 2 (.mov (.t 5))])
 .ret))
def c32 : CF := ⟨6, 1, [.mov (.t 2)], b32⟩
def b44 : C :=
 (.seq
 (.region false [
 oQ 2 (.mov (.c (.sl true [] 0)))])
 (.seq
 (.region false [
 oQ 3 (.mov (.t 0)),
 oQ 4 (.conv (.int .u32) (.t 3)),
 oQ 5 (.mov (.t 0)),
 oQ 6 (.bin 0 .shr (.t 5) (.c (.int .u64 32))),
 oQ 7 (.conv (.int .u32) (.t 6)),
 oQ 8 (.mksl [.int .u32 0, .int .u32 0] 2 [(0, (1, .t 4)), (1, (1, .t 7))]),
 ⟨some 9, .call false (.c (.fn 36 [] [])) [.t 8], none⟩,
 oQ 2 (.mov (.t 9))])
 .ret))
def c44 : CF := ⟨10, 1, [.mov (.t 2)], b44⟩
def b19 : C :=
 (.seq
 (.region false [
 oQ 2 (.mov (.c (.bool false)))])
 (.seq
 (.region false [
 oQ 3 (.mov (.t 0)),
 oQ 4 (.len false (.t 3)),
 oQ 5 (.mov (.t 0)),
 ⟨some 6, .call false (.c (.fn 36 [] [])) [.t 5], none⟩,
 oQ 7 (.len false (.t 6)),
 oQ 8 (.bin 0 .eql (.t 4) (.t 7)),
 oQ 2 (.mov (.t 8))])
 .ret))
def c19 : CF := ⟨9, 1, [.mov (.t 2)], b19⟩

theorem mix : Go.Proofs.Try.prog.follows .mixedOrders = true := by kernel_rfl
theorem s36 : stripF Go.Proofs.Try.prog 36 = some c36 := by kernel_rfl
theorem s60 : stripF Go.Proofs.Try.prog 60 = some c60 := by kernel_rfl
theorem s32 : stripF Go.Proofs.Try.prog 32 = some c32 := by kernel_rfl
theorem s44 : stripF Go.Proofs.Try.prog 44 = some c44 := by kernel_rfl
theorem s19 : stripF Go.Proofs.Try.prog 19 = some c19 := by kernel_rfl

def limb (n : Nat) : V := .int .u32 n
def nl (l : List Nat) : List V := l.map limb
def nsl (ex : Bool) (l : List Nat) : V := .sl ex (nl l) l.length
theorem nl_len (l : List Nat) : (nl l).length = l.length := by simp [nl]
theorem nl_get {l : List Nat} {i : Nat} {x : Nat} (h : l[i]? = some x) : (nl l)[i]? = some (limb x) := by simp [nl, h]
theorem nl_app (l m : List Nat) : nl (l ++ m) = nl l ++ nl m := by simp [nl]
theorem nl_cons (x : Nat) (l : List Nat) : nl (x :: l) = limb x :: nl l := rfl
theorem nl_nil : nl [] = [] := rfl
theorem nl_ro : ∀ l : List Nat, roL (nl l) = true
  | [] => rfl
  | n :: l => by simp only [nl,List.map_cons,roL,Bool.and_eq_true]; exact ⟨rfl, nl_ro l⟩
theorem nl_ro_1 (ex : Bool) (l : List Nat) : roL [nsl ex l] = true := by simp only [roL,nsl,V.ro,nl_ro]; rfl
theorem nsl_ro (ex : Bool) (l : List Nat) : (nsl ex l).ro = true := nl_ro l
theorem gives_ro' {H : Heap} {v r : V} (hv : v = r) (h : r.ro = true) : Gives H v r := by subst hv; exact gives_ro h

/-- Limbs without those at the end that are 0. -/
def cutR : List Nat → List Nat
  | [] => []
  | n :: r => if n = 0 then cutR r else n :: r
def cut (l : List Nat) : List Nat := (cutR l.reverse).reverse
theorem cut_nil : cut [] = [] := rfl
theorem cut_last (r : List Nat) (x : Nat) : cut (r ++ [x]) = if x = 0 then cut r else r ++ [x] := by
  simp only [cut,List.reverse_append,List.reverse_cons,List.reverse_nil,List.nil_append,List.singleton_append,cutR]
  split <;> simp
theorem cutR_len : ∀ l : List Nat, (cutR l).length ≤ l.length
  | [] => Nat.le_refl _
  | n :: r => by
    simp only [cutR]
    split
    · exact Nat.le_trans (cutR_len r) (Nat.le_succ _)
    · exact Nat.le_refl _
theorem cut_len (l : List Nat) : (cut l).length ≤ l.length := by
  simp only [cut,List.length_reverse]
  have := cutR_len l.reverse
  simpa using this

theorem good36 (ex : Bool) (l : List Nat) (hlen : l.length ≤ 9223372036854775807) :
    Good Go.Proofs.Try.prog 36 [nsl ex l] (nsl (ex || decide ((cut l).length < l.length)) (cut l)) := by
  refine good_of_run mix s36 (Nat.le_of_ble_eq_true rfl) ?_
  rw [run_go]
  simp only [c36,b36, oQ]
  simp -implicitDefEqProofs (disch := omega) only [↓ZD,ZP,cnd_t,cnd_f,↓reduceIte,Env.put,stepO,lenV,binV,binInt,unV,loadV,sliceV,boundOf,convV,slstrV,if_pos,if_neg,Int.reduceToNat,Nat.reducePow,V.cells,V.isCell,V.boxable,Nat.reduceEqDiff,reduceCtorEq,reduceIte,ite_self,enterEnv]
  refine go_loop (fun n e H => H = [] ∧ ∃ l', l'.length = n ∧ e 0 = nsl (ex || decide (l'.length < l.length)) l' ∧ cut l' = cut l ∧ l'.length ≤ l.length) l.length ⟨rfl, l, rfl, ?_, rfl, Nat.le_refl _⟩ ?_
  · simp [Env.set, enterEnv]
  rintro n e H ⟨rfl, l', rfl, h0, hcut, hle⟩
  rcases List.eq_nil_or_concat l' with rfl | ⟨r, x, rfl⟩
  · simp -implicitDefEqProofs (disch := omega) only [↓ZD,ZP,cnd_t,cnd_f,↓reduceIte,Env.put,stepO,lenV,binV,binInt,unV,loadV,sliceV,boundOf,convV,slstrV,if_pos,if_neg,Int.reduceToNat,Nat.reducePow,V.cells,V.isCell,V.boxable,Nat.reduceEqDiff,reduceCtorEq,reduceIte,ite_self,enterEnv,h0,nsl]
    refine gives_ro' ?_ (nl_ro _)
    simp only [← hcut,cut_nil]; rfl
  · rw [List.concat_eq_append] at *
    simp only [List.length_append,List.length_cons,List.length_nil] at *
    have hi : (nl (r ++ [x]))[((r.length + 1 : Nat) - 1 : Int).toNat]? = some (limb x) := by
      rw [show ((r.length + 1 : Nat) - 1 : Int).toNat = r.length by omega]
      simp [nl]
    by_cases hx : x = 0
    · subst hx
      simp -implicitDefEqProofs (disch := omega) only [↓ZD,ZP,cnd_t,cnd_f,↓reduceIte,Env.put,stepO,lenV,binV,binInt,unV,loadV,sliceV,boundOf,convV,slstrV,if_pos,if_neg,Int.reduceToNat,Nat.reducePow,V.cells,V.isCell,V.boxable,Nat.reduceEqDiff,reduceCtorEq,reduceIte,ite_self,enterEnv,h0,nsl,hi,limb,nl_len]
      rw [cut_last, if_pos rfl] at hcut
      refine ⟨r.length, by omega, r, rfl, ?_, hcut, by omega⟩
      rw [show ((r.length + 1 : Nat) - 1 - (0 : Nat) : Int).toNat = r.length by omega, nl_app, List.drop_zero, ← nl_len r, List.take_left, nl_len]
      have : decide (r.length < l.length) = true := by simp; omega
      simp [this]
    · simp -implicitDefEqProofs (disch := omega) only [↓ZD,ZP,cnd_t,cnd_f,↓reduceIte,Env.put,stepO,lenV,binV,binInt,unV,loadV,sliceV,boundOf,convV,slstrV,if_pos,if_neg,Int.reduceToNat,Nat.reducePow,V.cells,V.isCell,V.boxable,Nat.reduceEqDiff,reduceCtorEq,reduceIte,ite_self,enterEnv,h0,nsl,hi,limb]
      refine gives_ro' ?_ (nl_ro _)
      rw [← hcut, cut_last, if_neg hx]
      simp

theorem good60 (ex : Bool) (l : List Nat) (hlen : l.length ≤ 1100000) : Good Go.Proofs.Try.prog 60 [nsl ex l] (if l = [] then nsl true [] else .osl 1 (nl l) l.length) := by
  refine good_of_run mix s60 (Nat.le_of_ble_eq_true rfl) ?_
  rw [run_go]
  simp only [c60,b60, oQ]
  cases l with
  | nil =>
    simp -implicitDefEqProofs (disch := omega) only [↓ZD,ZP,cnd_t,cnd_f,↓reduceIte,Env.put,stepO,lenV,binV,binInt,unV,loadV,sliceV,boundOf,convV,slstrV,if_pos,if_neg,Int.reduceToNat,Nat.reducePow,V.cells,V.isCell,V.boxable,Nat.reduceEqDiff,reduceCtorEq,reduceIte,ite_self,enterEnv,nsl,nl_nil,appendV,srcCells,readSl,fillL,evParts]
    exact ⟨gives_ro rfl, gives_ro rfl⟩
  | cons x r =>
    simp only [List.length_cons] at hlen
    simp -implicitDefEqProofs (disch := omega) only [↓ZD,ZP,cnd_t,cnd_f,↓reduceIte,Env.put,stepO,lenV,binV,binInt,unV,loadV,sliceV,boundOf,convV,slstrV,if_pos,if_neg,Int.reduceToNat,Nat.reducePow,V.cells,V.isCell,V.boxable,Nat.reduceEqDiff,reduceCtorEq,reduceIte,ite_self,enterEnv,nsl,nl_cons,nl_len,appendV,srcCells,readSl,fillL,evParts]
    exact gives_own 0 rfl (nl_ro (x :: r)) rfl rfl

theorem lend0 {H : Heap} {vs : List V} : lend 0 H vs = (H, vs) := rfl
theorem lend1 {H : Heap} {vs : List V} : lend 1 H vs = (freezeL H (refsL vs), borL H vs) := rfl

def nf (l : List Nat) : V := nsl false l
theorem nf_ro (l : List Nat) : (nf l).ro = true := nl_ro l
theorem weak_nsl (ex : Bool) (l : List Nat) : (nsl ex l).weak = nf l := rfl

theorem cut36 (ex : Bool) (l : List Nat) (hlen : l.length ≤ 9223372036854775807) : Good Go.Proofs.Try.prog 36 [nsl ex l] (nsl (ex || decide ((cut l).length < l.length)) (cut l)) := good36 ex l hlen

/-- Clone, to be read. -/
theorem clone60 (ex : Bool) (l : List Nat) (hlen : l.length ≤ 1100000) : Good Go.Proofs.Try.prog 60 [nsl ex l] (nf l) := by
  refine good_of_run mix s60 (Nat.le_of_ble_eq_true rfl) ?_
  rw [run_go]
  simp only [c60,b60, oQ]
  cases l with
  | nil =>
    simp -implicitDefEqProofs (disch := omega) only [↓ZD,ZP,cnd_t,cnd_f,↓reduceIte,Env.put,stepO,lenV,binV,binInt,unV,loadV,sliceV,boundOf,convV,slstrV,if_pos,if_neg,Int.reduceToNat,Nat.reducePow,V.cells,V.isCell,V.boxable,Nat.reduceEqDiff,reduceCtorEq,reduceIte,ite_self,enterEnv,nsl,nl_nil,appendV,srcCells,readSl,fillL,evParts]
    exact ⟨gives_eq rfl rfl, gives_eq rfl rfl⟩
  | cons x r =>
    simp only [List.length_cons] at hlen
    simp -implicitDefEqProofs (disch := omega) only [↓ZD,ZP,cnd_t,cnd_f,↓reduceIte,Env.put,stepO,lenV,binV,binInt,unV,loadV,sliceV,boundOf,convV,slstrV,if_pos,if_neg,Int.reduceToNat,Nat.reducePow,V.cells,V.isCell,V.boxable,Nat.reduceEqDiff,reduceCtorEq,reduceIte,ite_self,enterEnv,nsl,nl_cons,nl_len,appendV,srcCells,readSl,fillL,evParts]
    refine gives_lend 1 (v' := nsl false (x :: r)) ?_ (nl_ro (x :: r)) rfl
    simp [lend1, borL, bor, nsl, nl_cons, nl_len]
    rw [← nl_len r, List.take_length]

theorem own_good32 (ex : Bool) (l : List Nat) (hne : cut l ≠ []) (hlen : l.length ≤ 1100000) : Good Go.Proofs.Try.prog 32 [nsl ex l] (.osl 1 (nl (cut l)) (cut l).length) := by
  refine good_of_run mix s32 (Nat.le_of_ble_eq_true rfl) ?_
  rw [run_go]
  simp only [c32,b32, oQ]
  have hc := cut_len l
  simp -implicitDefEqProofs (disch := omega) only [↓ZD,ZP,cnd_t,cnd_f,↓reduceIte,Env.put,stepO,lenV,binV,binInt,unV,loadV,sliceV,boundOf,convV,slstrV,if_pos,if_neg,Int.reduceToNat,Nat.reducePow,V.cells,V.isCell,V.boxable,Nat.reduceEqDiff,reduceCtorEq,reduceIte,ite_self,enterEnv]
  refine calP_ro (nl_ro_1 _ _) (good36 ex l (by omega)) (nsl_ro _ _) ?_
  simp -implicitDefEqProofs (disch := omega) only [↓ZD,ZP,cnd_t,cnd_f,↓reduceIte,Env.put,stepO,lenV,binV,binInt,unV,loadV,sliceV,boundOf,convV,slstrV,if_pos,if_neg,Int.reduceToNat,Nat.reducePow,V.cells,V.isCell,V.boxable,Nat.reduceEqDiff,reduceCtorEq,reduceIte,ite_self,enterEnv]
  have hg := good60 (ex || decide ((cut l).length < l.length)) (cut l) (by omega)
  rw [if_neg hne] at hg
  refine calP_lend 0 lend0 (nl_ro_1 _ _) hg ?_
  simp -implicitDefEqProofs (disch := omega) only [↓ZD,ZP,cnd_t,cnd_f,↓reduceIte,Env.put,stepO,lenV,binV,binInt,unV,loadV,sliceV,boundOf,convV,slstrV,if_pos,if_neg,Int.reduceToNat,Nat.reducePow,V.cells,V.isCell,V.boxable,Nat.reduceEqDiff,reduceCtorEq,reduceIte,ite_self,enterEnv,adopt,adopt1,lend0]
  exact gives_own 0 rfl (nl_ro _) rfl rfl

theorem trim32 (ex : Bool) (l : List Nat) (hlen : l.length ≤ 1100000) : Good Go.Proofs.Try.prog 32 [nsl ex l] (nf (cut l)) := by
  refine good_of_run mix s32 (Nat.le_of_ble_eq_true rfl) ?_
  rw [run_go]
  simp only [c32,b32, oQ]
  have hc := cut_len l
  simp -implicitDefEqProofs (disch := omega) only [↓ZD,ZP,cnd_t,cnd_f,↓reduceIte,Env.put,stepO,lenV,binV,binInt,unV,loadV,sliceV,boundOf,convV,slstrV,if_pos,if_neg,Int.reduceToNat,Nat.reducePow,V.cells,V.isCell,V.boxable,Nat.reduceEqDiff,reduceCtorEq,reduceIte,ite_self,enterEnv]
  refine calP_ro (nl_ro_1 _ _) (good36 ex l (by omega)) (nsl_ro _ _) ?_
  simp -implicitDefEqProofs (disch := omega) only [↓ZD,ZP,cnd_t,cnd_f,↓reduceIte,Env.put,stepO,lenV,binV,binInt,unV,loadV,sliceV,boundOf,convV,slstrV,if_pos,if_neg,Int.reduceToNat,Nat.reducePow,V.cells,V.isCell,V.boxable,Nat.reduceEqDiff,reduceCtorEq,reduceIte,ite_self,enterEnv]
  refine calP_ro (nl_ro_1 _ _) (clone60 _ (cut l) (by omega)) (nf_ro _) ?_
  simp -implicitDefEqProofs (disch := omega) only [↓ZD,ZP,cnd_t,cnd_f,↓reduceIte,Env.put,stepO,lenV,binV,binInt,unV,loadV,sliceV,boundOf,convV,slstrV,if_pos,if_neg,Int.reduceToNat,Nat.reducePow,V.cells,V.isCell,V.boxable,Nat.reduceEqDiff,reduceCtorEq,reduceIte,ite_self,enterEnv]
  exact gives_eq (nf_ro _) rfl

/-- A number's two limbs. -/
theorem good44 (n : Nat) (h : n < 18446744073709551616) : Good Go.Proofs.Try.prog 44 [.int .u64 n] (nf (cut [n % 4294967296, n / 4294967296])) := by
  refine good_of_run mix s44 (Nat.le_of_ble_eq_true rfl) ?_
  rw [run_go]
  simp only [c44,b44, oQ]
  simp -implicitDefEqProofs (disch := omega) only [↓ZD,ZP,cnd_t,cnd_f,↓reduceIte,Env.put,stepO,lenV,binV,binInt,unV,loadV,sliceV,boundOf,convV,slstrV,if_pos,if_neg,Int.reduceToNat,Nat.reducePow,V.cells,V.isCell,V.boxable,Nat.reduceEqDiff,reduceCtorEq,reduceIte,ite_self,enterEnv,w32,shr_c,evParts,fillL,V.boxable,V.isCell,V.cells,splice,List.take_zero,List.drop_succ_cons,List.drop_zero,List.take_succ_cons]
  have e : n / 2 ^ 32 = n / 4294967296 := rfl
  rw [e]
  have hg := good36 true [n % 4294967296, n / 4294967296] (by simp)
  refine calP_ro (nl_ro_1 true [n % 4294967296, n / 4294967296]) hg (nsl_ro _ _) ?_
  simp -implicitDefEqProofs (disch := omega) only [↓ZD,ZP,cnd_t,cnd_f,↓reduceIte,Env.put,stepO,lenV,binV,binInt,unV,loadV,sliceV,boundOf,convV,slstrV,if_pos,if_neg,Int.reduceToNat,Nat.reducePow,V.cells,V.isCell,V.boxable,Nat.reduceEqDiff,reduceCtorEq,reduceIte,ite_self,enterEnv]
  exact gives_eq (nsl_ro _ _) rfl

theorem good19 (ex : Bool) (l : List Nat) (hlen : l.length ≤ 1100000) : Good Go.Proofs.Try.prog 19 [nsl ex l] (.bool (decide (l.length = (cut l).length))) := by
  refine good_of_run mix s19 (Nat.le_of_ble_eq_true rfl) ?_
  rw [run_go]
  simp only [c19,b19, oQ]
  have hc := cut_len l
  simp -implicitDefEqProofs (disch := omega) only [↓ZD,ZP,cnd_t,cnd_f,↓reduceIte,Env.put,stepO,lenV,binV,binInt,unV,loadV,sliceV,boundOf,convV,slstrV,if_pos,if_neg,Int.reduceToNat,Nat.reducePow,V.cells,V.isCell,V.boxable,Nat.reduceEqDiff,reduceCtorEq,reduceIte,ite_self,enterEnv,nsl]
  refine calP_ro (nl_ro_1 _ _) (good36 ex l (by omega)) (nsl_ro _ _) ?_
  simp -implicitDefEqProofs (disch := omega) only [↓ZD,ZP,cnd_t,cnd_f,↓reduceIte,Env.put,stepO,lenV,binV,binInt,unV,loadV,sliceV,boundOf,convV,slstrV,if_pos,if_neg,Int.reduceToNat,Nat.reducePow,V.cells,V.isCell,V.boxable,Nat.reduceEqDiff,reduceCtorEq,reduceIte,ite_self,enterEnv,nsl]
  refine gives_eq rfl ?_
  simp only [V.weak,V.bool.injEq]
  rw [Bool.eq_iff_iff, decide_eq_true_eq, beq_iff_eq]
  omega
end Fe
open Go Go.Proofs
namespace Fe
def b83 : C :=
 (.seq
 (.region false [
 oQ 6 (.mov (.c (.int .u32 0))),
 oQ 7 (.mov (.c (.int .u32 0)))])
 (.seq
 (.region false [
 oQ 8 (.mov (.t 0)),
 oQ 9 (.mov (.t 1)),
 oQ 10 (.bin 0 .sub (.t 8) (.t 9)),
 oQ 11 (.mov (.t 2)),
 oQ 12 (.bin 0 .sub (.t 10) (.t 11)),
 oQ 6 (.mov (.t 12))])
 (.seq
 (.region false [
 oQ 13 (.mov (.t 0)),
 oQ 14 (.un .xor (.t 13)),
 oQ 15 (.mov (.t 1)),
 oQ 16 (.bin 0 .and (.t 14) (.t 15)),
 oQ 17 (.mov (.t 0)),
 oQ 18 (.mov (.t 1)),
 oQ 19 (.bin 0 .xor (.t 17) (.t 18)),
 oQ 20 (.un .xor (.t 19)),
 oQ 21 (.mov (.t 6)),
 oQ 22 (.bin 0 .and (.t 20) (.t 21)),
 oQ 23 (.bin 0 .or (.t 16) (.t 22)),
 oQ 24 (.bin 0 .shr (.t 23) (.c (.int .u64 31))),
 oQ 7 (.mov (.t 24))])
 .ret)))
def c83 : CF := ⟨25, 3, [.mov (.t 6), .mov (.t 7)], b83⟩
def b68 : C :=
 (.seq
 (.region false [
 oQ 6 (.mov (.c (.int .u32 0))),
 oQ 7 (.mov (.c (.int .u32 0)))])
 (.seq
 (.region false [
 oQ 9 (.mov (.t 0)),
 oQ 10 (.conv (.int .u64) (.t 9)),
 oQ 11 (.mov (.t 1)),
 oQ 12 (.conv (.int .u64) (.t 11)),
 oQ 13 (.bin 0 .add (.t 10) (.t 12)),
 oQ 14 (.mov (.t 2)),
 oQ 15 (.conv (.int .u64) (.t 14)),
 oQ 16 (.bin 0 .add (.t 13) (.t 15)),
 oQ 8 (.mov (.t 16))])
 (.seq
 (.region false [
 oQ 17 (.mov (.t 8)),
 oQ 18 (.conv (.int .u32) (.t 17)),
 oQ 6 (.mov (.t 18))])
 (.seq
 (.region false [
 oQ 19 (.mov (.t 8)),
 oQ 20 (.bin 0 .shr (.t 19) (.c (.int .u64 32))),
 oQ 21 (.conv (.int .u32) (.t 20)),
 oQ 7 (.mov (.t 21))])
 .ret))))
def c68 : CF := ⟨22, 3, [.mov (.t 6), .mov (.t 7)], b68⟩
def b82 : C :=
 (.seq
 (.region false [
 oQ 2 (.mov (.c (.int .i64 0)))])
 (.seq
 (.seq
 (.region false [
 oQ 3 (.mov (.t 0)),
 oQ 4 (.bin 0 .geq (.t 3) (.c (.int .u32 65536)))])
 (.cond (.t 4)
 (.seq
 (.region false [
 oQ 5 (.mov (.t 0)),
 oQ 6 (.bin 0 .shr (.t 5) (.c (.int .u64 16))),
 oQ 0 (.mov (.t 6))])
 (.region false [
 oQ 2 (.mov (.c (.int .i64 16)))]))
 .skip))
 (.seq
 (.seq
 (.region false [
 oQ 7 (.mov (.t 0)),
 oQ 8 (.bin 0 .geq (.t 7) (.c (.int .u32 256)))])
 (.cond (.t 8)
 (.seq
 (.region false [
 oQ 9 (.mov (.t 0)),
 oQ 10 (.bin 0 .shr (.t 9) (.c (.int .u64 8))),
 oQ 0 (.mov (.t 10))])
 (.region false [
 oQ 11 (.mov (.t 2)),
 oQ 12 (.bin 0 .add (.t 11) (.c (.int .i64 8))),
 oQ 2 (.mov (.t 12))]))
 .skip))
 (.seq
 (.region false [
 oQ 13 (.mov (.t 2)),
 oQ 14 (.mov (.t 0)),
 oQ 15 (.conv (.int .u8) (.t 14)),
 oQ 16 (.index (.c (.str [0, 1, 2, 2, 3, 3, 3, 3, 4, 4, 4, 4, 4, 4, 4, 4, 5, 5, 5, 5, 5, 5, 5, 5, 5, 5, 5, 5, 5, 5, 5, 5, 6, 6, 6, 6, 6, 6, 6, 6, 6, 6, 6, 6, 6, 6, 6, 6, 6, 6, 6, 6, 6, 6, 6, 6, 6, 6, 6, 6, 6, 6, 6, 6, 7, 7, 7, 7, 7, 7, 7, 7, 7, 7, 7, 7, 7, 7, 7, 7, 7, 7, 7, 7, 7, 7, 7, 7, 7, 7, 7, 7, 7, 7, 7, 7, 7, 7, 7, 7, 7, 7, 7, 7, 7, 7, 7, 7, 7, 7, 7, 7, 7, 7, 7, 7, 7, 7, 7, 7, 7, 7, 7, 7, 7, 7, 7, 7, 8, 8, 8, 8, 8, 8, 8, 8, 8, 8, 8, 8, 8, 8, 8, 8, 8, 8, 8, 8, 8, 8, 8, 8, 8, 8, 8, 8, 8, 8, 8, 8, 8, 8, 8, 8, 8, 8, 8, 8, 8, 8, 8, 8, 8, 8, 8, 8, 8, 8, 8, 8, 8, 8, 8, 8, 8, 8, 8, 8, 8, 8, 8, 8, 8, 8, 8, 8, 8, 8, 8, 8, 8, 8, 8, 8, 8, 8, 8, 8, 8, 8, 8, 8, 8, 8, 8, 8, 8, 8, 8, 8, 8, 8, 8, 8, 8, 8, 8, 8, 8, 8, 8, 8, 8, 8, 8, 8, 8, 8, 8, 8, 8, 8, 8, 8, 8, 8, 8, 8, 8, 8, 8, 8, 8, 8, 8, 8])) (.t 15)),
 oQ 17 (.conv (.int .i64) (.t 16)),
 oQ 18 (.bin 0 .add (.t 13) (.t 17)),
 oQ 2 (.mov (.t 18))])
 .ret))))
def c82 : CF := ⟨19, 1, [.mov (.t 2)], b82⟩
def b64 : C :=
 (.seq
 (.region false [
 oQ 2 (.mov (.c (.int .i64 0)))])
 (.seq
 (.region false [
 oQ 3 (.mov (.t 0)),
 ⟨some 4, .call false (.c (.fn 82 [] [])) [.t 3], none⟩,
 oQ 5 (.bin 0 .sub (.c (.int .i64 32)) (.t 4)),
 oQ 2 (.mov (.t 5))])
 .ret))
def c64 : CF := ⟨6, 1, [.mov (.t 2)], b64⟩
def b61 : C :=
 (.seq
 (.region false [
 oQ 6 (.mov (.c (.int .u32 0))),
 oQ 7 (.mov (.c (.int .u32 0)))])
 (.seq
 (.seq
 (.region false [
 oQ 9 (.mov (.t 2)),
 oQ 10 (.bin 0 .neq (.t 9) (.c (.int .u32 0))),
 oQ 11 (.mov (.t 10)),
 ⟨some 12, .op (.mov (.t 2)), some (11, true)⟩,
 ⟨some 13, .op (.mov (.t 0)), some (11, true)⟩,
 ⟨some 14, .op (.bin 0 .leq (.t 12) (.t 13)), some (11, true)⟩,
 oQ 15 (.pick (.t 11) (.t 14) (.c (.bool false)))])
 (.cond (.t 15)
 (.region false [
 oQ 16 (.extract (.c .und) 0),
 ⟨none, .op (.extract (.c .und) 0), none⟩])
 .skip))
 (.seq
 (.region false [
 oQ 17 (.mov (.t 0)),
 oQ 18 (.conv (.int .u64) (.t 17)),
 oQ 19 (.bin 0 .shl (.t 18) (.c (.int .u64 32))),
 oQ 20 (.mov (.t 1)),
 oQ 21 (.conv (.int .u64) (.t 20)),
 oQ 22 (.bin 0 .or (.t 19) (.t 21)),
 oQ 8 (.mov (.t 22))])
 (.seq
 (.region true [
 oQ 23 (.mov (.t 8)),
 oQ 24 (.mov (.t 2)),
 oQ 25 (.conv (.int .u64) (.t 24)),
 oQ 26 (.bin 0 .quo (.t 23) (.t 25)),
 oQ 27 (.conv (.int .u32) (.t 26)),
 oQ 28 (.mov (.t 8)),
 oQ 29 (.mov (.t 2)),
 oQ 30 (.conv (.int .u64) (.t 29)),
 oQ 31 (.bin 0 .rem (.t 28) (.t 30)),
 oQ 32 (.conv (.int .u32) (.t 31)),
 oQ 6 (.mov (.t 27)),
 oQ 7 (.mov (.t 32))])
 .ret))))
def c61 : CF := ⟨33, 3, [.mov (.t 6), .mov (.t 7)], b61⟩
theorem s83 : stripF Go.Proofs.Try.prog 83 = some c83 := by kernel_rfl
theorem s68 : stripF Go.Proofs.Try.prog 68 = some c68 := by kernel_rfl
theorem s82 : stripF Go.Proofs.Try.prog 82 = some c82 := by kernel_rfl
theorem s64 : stripF Go.Proofs.Try.prog 64 = some c64 := by kernel_rfl
theorem s61 : stripF Go.Proofs.Try.prog 61 = some c61 := by kernel_rfl

def sub32 (x y b : Nat) : Nat := (x + 8589934592 - y - b) % 4294967296
def bor32 (x y b : Nat) : Nat := if x < y + b then 1 else 0

theorem sub32_eq (x y b : Nat) (hx : x < 4294967296) (hy : y < 4294967296) (hb : b ≤ 1) : IntKind.u32.wrap (IntKind.u32.wrap ((x : Int) - (y : Int)) - (b : Int)) = ((sub32 x y b : Nat) : Int) := by
  rw [wr_u32, wr_u32, sub32]; omega
theorem sub32_lt (x y b : Nat) : sub32 x y b < 4294967296 := Nat.mod_lt _ (by decide)

theorem bor_eq (x y b d : Nat) (hx : x < 4294967296) (hy : y < 4294967296) (hb : b ≤ 1) (hd : d = sub32 x y b) :
    (IntKind.u32.wrap (BitVec.ofInt IntKind.u32.bits (IntKind.u32.wrap (BitVec.ofInt IntKind.u32.bits (IntKind.u32.wrap (BitVec.ofInt IntKind.u32.bits IntKind.u32.max ^^^ BitVec.ofInt IntKind.u32.bits (x : Int)).toNat) &&& BitVec.ofInt IntKind.u32.bits (y : Int)).toNat) |||
      BitVec.ofInt IntKind.u32.bits (IntKind.u32.wrap (BitVec.ofInt IntKind.u32.bits (IntKind.u32.wrap (BitVec.ofInt IntKind.u32.bits IntKind.u32.max ^^^ BitVec.ofInt IntKind.u32.bits (IntKind.u32.wrap (BitVec.ofInt IntKind.u32.bits (x : Int) ^^^ BitVec.ofInt IntKind.u32.bits (y : Int)).toNat)).toNat) &&&
        BitVec.ofInt IntKind.u32.bits (d : Int)).toNat)).toNat).fdiv (2 ^ 31) = ((bor32 x y b : Nat) : Int) := by
  have ox : ∀ a : Nat, BitVec.ofInt IntKind.u32.bits (a : Int) = BitVec.ofNat 32 a := fun a => ofInt_nat 32 a
  have hn : ∀ a : Nat, IntKind.u32.wrap (BitVec.ofInt IntKind.u32.bits IntKind.u32.max ^^^ BitVec.ofInt IntKind.u32.bits (a : Int)).toNat = ((~~~(BitVec.ofNat 32 a)).toNat : Int) := by
    intro a
    have e : BitVec.ofInt 32 IntKind.u32.max = BitVec.allOnes 32 := by decide
    show IntKind.u32.wrap (BitVec.ofInt 32 IntKind.u32.max ^^^ BitVec.ofInt 32 (a : Int)).toNat = _
    rw [e, ofInt_nat, BitVec.allOnes_xor]
    exact wbv32 _
  have ob : ∀ u : BitVec 32, BitVec.ofNat 32 u.toNat = u := fun u => by simp
  have w (u : BitVec 32) : IntKind.u32.wrap (u.toNat : Int) = (u.toNat : Int) := wbv32 u
  have hxy : IntKind.u32.wrap (BitVec.ofInt IntKind.u32.bits (x : Int) ^^^ BitVec.ofInt IntKind.u32.bits (y : Int)).toNat = ((BitVec.ofNat 32 x ^^^ BitVec.ofNat 32 y).toNat : Int) := by
    rw [ox, ox]; exact w _
  rw [hxy, hn, hn]
  have h1 : IntKind.u32.wrap (BitVec.ofInt IntKind.u32.bits ((~~~(BitVec.ofNat 32 x)).toNat : Int) &&& BitVec.ofInt IntKind.u32.bits (y : Int)).toNat = ((~~~(BitVec.ofNat 32 x) &&& BitVec.ofNat 32 y).toNat : Int) := by
    rw [ox, ox, ob]; exact w _
  have h2 : IntKind.u32.wrap (BitVec.ofInt IntKind.u32.bits ((~~~(BitVec.ofNat 32 (BitVec.ofNat 32 x ^^^ BitVec.ofNat 32 y).toNat)).toNat : Int) &&& BitVec.ofInt IntKind.u32.bits (d : Int)).toNat = ((~~~(BitVec.ofNat 32 x ^^^ BitVec.ofNat 32 y) &&& BitVec.ofNat 32 d).toNat : Int) := by
    rw [ox, ox, ob, ob]; exact w _
  rw [h1, h2]
  have h3 : IntKind.u32.wrap (BitVec.ofInt IntKind.u32.bits ((~~~(BitVec.ofNat 32 x) &&& BitVec.ofNat 32 y).toNat : Int) ||| BitVec.ofInt IntKind.u32.bits ((~~~(BitVec.ofNat 32 x ^^^ BitVec.ofNat 32 y) &&& BitVec.ofNat 32 d).toNat : Int)).toNat =
      (((~~~(BitVec.ofNat 32 x) &&& BitVec.ofNat 32 y) ||| (~~~(BitVec.ofNat 32 x ^^^ BitVec.ofNat 32 y) &&& BitVec.ofNat 32 d)).toNat : Int) := by
    rw [ox, ox, ob, ob]; exact w _
  rw [h3, shr_c]
  have hdb : BitVec.ofNat 32 d = BitVec.ofNat 32 x - BitVec.ofNat 32 y - BitVec.ofNat 32 b := by
    apply BitVec.eq_of_toNat_eq
    rw [BitVec.toNat_sub, BitVec.toNat_sub, BitVec.toNat_ofNat, BitVec.toNat_ofNat, BitVec.toNat_ofNat, BitVec.toNat_ofNat, hd, sub32]
    omega
  rw [borrow_bit _ _ b hb _ hdb, nat_bv hx, nat_bv hy, bor32]

theorem good83 (x y b : Nat) (hx : x < 4294967296) (hy : y < 4294967296) (hb : b ≤ 1) : Good Go.Proofs.Try.prog 83 [limb x, limb y, limb b] (.tup [limb (sub32 x y b), limb (bor32 x y b)]) := by
  refine good_of_run mix s83 (Nat.le_of_ble_eq_true rfl) ?_
  rw [run_go]
  simp only [c83,b83, oQ]
  simp -implicitDefEqProofs (disch := omega) only [↓ZD,ZP,cnd_t,cnd_f,↓reduceIte,Env.put,stepO,lenV,binV,binInt,unV,loadV,sliceV,boundOf,convV,slstrV,if_pos,if_neg,Int.reduceToNat,Nat.reducePow,V.cells,V.isCell,V.boxable,Nat.reduceEqDiff,reduceCtorEq,reduceIte,ite_self,enterEnv,limb,sgn_u32]
  have h1 := sub32_eq x y b hx hy hb
  have h2 := bor_eq x y b _ hx hy hb rfl
  generalize sub32 x y b = d at h1 h2 ⊢
  generalize bor32 x y b = q at h2 ⊢
  rw [h1, h2]
  exact gives_eq rfl rfl

theorem good68 (x y c : Nat) (hx : x < 4294967296) (hy : y < 4294967296) (hc : c ≤ 1) : Good Go.Proofs.Try.prog 68 [limb x, limb y, limb c] (.tup [limb ((x + y + c) % 4294967296), limb ((x + y + c) / 4294967296)]) := by
  refine good_of_run mix s68 (Nat.le_of_ble_eq_true rfl) ?_
  rw [run_go]
  simp only [c68,b68, oQ]
  simp -implicitDefEqProofs (disch := omega) only [↓ZD,ZP,cnd_t,cnd_f,↓reduceIte,Env.put,stepO,lenV,binV,binInt,unV,loadV,sliceV,boundOf,convV,slstrV,if_pos,if_neg,Int.reduceToNat,Nat.reducePow,V.cells,V.isCell,V.boxable,Nat.reduceEqDiff,reduceCtorEq,reduceIte,ite_self,enterEnv,limb,w32,shr_c]
  have e : (x + y + c) / 2 ^ 32 = (x + y + c) / 4294967296 := rfl
  rw [e]
  exact gives_eq rfl rfl

set_option maxRecDepth 100000 in
theorem len8 : ∀ j : Nat, j < 256 → ([0, 1, 2, 2, 3, 3, 3, 3, 4, 4, 4, 4, 4, 4, 4, 4, 5, 5, 5, 5, 5, 5, 5, 5, 5, 5, 5, 5, 5, 5, 5, 5, 6, 6, 6, 6, 6, 6, 6, 6, 6, 6, 6, 6, 6, 6, 6, 6, 6, 6, 6, 6, 6, 6, 6, 6, 6, 6, 6, 6, 6, 6, 6, 6, 7, 7, 7, 7, 7, 7, 7, 7, 7, 7, 7, 7, 7, 7, 7, 7, 7, 7, 7, 7, 7, 7, 7, 7, 7, 7, 7, 7, 7, 7, 7, 7, 7, 7, 7, 7, 7, 7, 7, 7, 7, 7, 7, 7, 7, 7, 7, 7, 7, 7, 7, 7, 7, 7, 7, 7, 7, 7, 7, 7, 7, 7, 7, 7, 8, 8, 8, 8, 8, 8, 8, 8, 8, 8, 8, 8, 8, 8, 8, 8, 8, 8, 8, 8, 8, 8, 8, 8, 8, 8, 8, 8, 8, 8, 8, 8, 8, 8, 8, 8, 8, 8, 8, 8, 8, 8, 8, 8, 8, 8, 8, 8, 8, 8, 8, 8, 8, 8, 8, 8, 8, 8, 8, 8, 8, 8, 8, 8, 8, 8, 8, 8, 8, 8, 8, 8, 8, 8, 8, 8, 8, 8, 8, 8, 8, 8, 8, 8, 8, 8, 8, 8, 8, 8, 8, 8, 8, 8, 8, 8, 8, 8, 8, 8, 8, 8, 8, 8, 8, 8, 8, 8, 8, 8, 8, 8, 8, 8, 8, 8, 8, 8, 8, 8, 8, 8, 8, 8, 8, 8, 8, 8] : List UInt8)[j]? = some (UInt8.ofNat (if j = 0 then 0 else Nat.log2 j + 1)) := by decide

theorem log2_down (x k : Nat) (h : 2 ^ k ≤ x) : Nat.log2 x = Nat.log2 (x / 2 ^ k) + k := by
  have hp : 0 < 2 ^ k := Nat.two_pow_pos k
  have hq : x / 2 ^ k ≠ 0 := by
    intro h0
    have := (Nat.div_eq_zero_iff).1 h0
    omega
  have h1 := (Nat.log2_eq_iff hq).1 rfl
  refine (Nat.log2_eq_iff (by omega)).2 ⟨?_, ?_⟩
  · have := Nat.mul_le_mul_right (2 ^ k) h1.1
    rw [← Nat.pow_add] at this
    exact Nat.le_trans this (Nat.div_mul_le_self x _)
  · have h2 : x / 2 ^ k + 1 ≤ 2 ^ ((x / 2 ^ k).log2 + 1) := h1.2
    have := Nat.mul_le_mul_right (2 ^ k) h2
    rw [← Nat.pow_add] at this
    have h3 := Nat.lt_div_mul_add (a := x) hp
    have h4 : (x / 2 ^ k).log2 + k + 1 = (x / 2 ^ k).log2 + 1 + k := by omega
    rw [h4]
    have h5 : (x / 2 ^ k + 1) * 2 ^ k = x / 2 ^ k * 2 ^ k + 2 ^ k := by rw [Nat.add_mul, Nat.one_mul]
    omega

theorem len8' (j : Nat) (h : j < 256) : ∃ t : Nat, t ≤ 8 ∧ t = (if j = 0 then 0 else Nat.log2 j + 1) ∧ ([0, 1, 2, 2, 3, 3, 3, 3, 4, 4, 4, 4, 4, 4, 4, 4, 5, 5, 5, 5, 5, 5, 5, 5, 5, 5, 5, 5, 5, 5, 5, 5, 6, 6, 6, 6, 6, 6, 6, 6, 6, 6, 6, 6, 6, 6, 6, 6, 6, 6, 6, 6, 6, 6, 6, 6, 6, 6, 6, 6, 6, 6, 6, 6, 7, 7, 7, 7, 7, 7, 7, 7, 7, 7, 7, 7, 7, 7, 7, 7, 7, 7, 7, 7, 7, 7, 7, 7, 7, 7, 7, 7, 7, 7, 7, 7, 7, 7, 7, 7, 7, 7, 7, 7, 7, 7, 7, 7, 7, 7, 7, 7, 7, 7, 7, 7, 7, 7, 7, 7, 7, 7, 7, 7, 7, 7, 7, 7, 8, 8, 8, 8, 8, 8, 8, 8, 8, 8, 8, 8, 8, 8, 8, 8, 8, 8, 8, 8, 8, 8, 8, 8, 8, 8, 8, 8, 8, 8, 8, 8, 8, 8, 8, 8, 8, 8, 8, 8, 8, 8, 8, 8, 8, 8, 8, 8, 8, 8, 8, 8, 8, 8, 8, 8, 8, 8, 8, 8, 8, 8, 8, 8, 8, 8, 8, 8, 8, 8, 8, 8, 8, 8, 8, 8, 8, 8, 8, 8, 8, 8, 8, 8, 8, 8, 8, 8, 8, 8, 8, 8, 8, 8, 8, 8, 8, 8, 8, 8, 8, 8, 8, 8, 8, 8, 8, 8, 8, 8, 8, 8, 8, 8, 8, 8, 8, 8, 8, 8, 8, 8, 8, 8, 8, 8, 8, 8] : List UInt8)[j]? = some (UInt8.ofNat t) ∧ ((UInt8.ofNat t).toNat : Int) = t := by
  refine ⟨_, ?_, rfl, len8 j h, ?_⟩
  · split
    · omega
    · rename_i h0
      have := (Nat.log2_lt h0 (k := 8)).2 (by omega)
      omega
  · have hb : (if j = 0 then 0 else Nat.log2 j + 1) ≤ 8 := by
      split
      · omega
      · rename_i h0
        have := (Nat.log2_lt h0 (k := 8)).2 (by omega)
        omega
    generalize (if j = 0 then 0 else Nat.log2 j + 1) = t at hb ⊢
    simp; omega

set_option maxRecDepth 100000 in
theorem good82 (x : Nat) (hx : x < 4294967296) : Good Go.Proofs.Try.prog 82 [limb x] (.int .i64 ((if x = 0 then 0 else Nat.log2 x + 1 : Nat))) := by
  refine good_of_run mix s82 (Nat.le_of_ble_eq_true rfl) ?_
  rw [run_go]
  simp only [c82,b82, oQ]
  by_cases h1 : x < 65536
  · by_cases h2 : x < 256
    · obtain ⟨t, h8, ht, htab, hu⟩ := len8' x h2
      rw [← ht]
      simp -implicitDefEqProofs (disch := omega) only [↓ZD,ZP,cnd_t,cnd_f,↓reduceIte,Env.put,stepO,lenV,binV,binInt,unV,loadV,sliceV,boundOf,convV,slstrV,if_pos,if_neg,Int.reduceToNat,Nat.reducePow,V.cells,V.isCell,V.boxable,Nat.reduceEqDiff,reduceCtorEq,reduceIte,ite_self,enterEnv,limb,htab,hu,Int.zero_add]
      exact gives_eq rfl rfl
    · obtain ⟨t, h8, ht, htab, hu⟩ := len8' (x / 256) (by omega)
      have e : (if x = 0 then 0 else Nat.log2 x + 1) = 8 + t := by
        rw [ht, if_neg (by omega), if_neg (by omega), log2_down x 8 (by omega), show x / 2 ^ 8 = x / 256 from rfl]
        omega
      rw [e]
      have hd : x / 2 ^ 8 = x / 256 := rfl
      simp -implicitDefEqProofs (disch := omega) only [↓ZD,ZP,cnd_t,cnd_f,↓reduceIte,Env.put,stepO,lenV,binV,binInt,unV,loadV,sliceV,boundOf,convV,slstrV,if_pos,if_neg,Int.reduceToNat,Nat.reducePow,V.cells,V.isCell,V.boxable,Nat.reduceEqDiff,reduceCtorEq,reduceIte,ite_self,enterEnv,limb,shr_c,hd,htab,hu,Int.zero_add]
      exact gives_eq rfl (by simp [V.weak])
  · by_cases h2 : x / 65536 < 256
    · obtain ⟨t, h8, ht, htab, hu⟩ := len8' (x / 65536) (by omega)
      have e : (if x = 0 then 0 else Nat.log2 x + 1) = 16 + t := by
        rw [ht, if_neg (by omega), if_neg (by omega), log2_down x 16 (by omega), show x / 2 ^ 16 = x / 65536 from rfl]
        omega
      rw [e]
      have hd : x / 2 ^ 16 = x / 65536 := rfl
      simp -implicitDefEqProofs (disch := omega) only [↓ZD,ZP,cnd_t,cnd_f,↓reduceIte,Env.put,stepO,lenV,binV,binInt,unV,loadV,sliceV,boundOf,convV,slstrV,if_pos,if_neg,Int.reduceToNat,Nat.reducePow,V.cells,V.isCell,V.boxable,Nat.reduceEqDiff,reduceCtorEq,reduceIte,ite_self,enterEnv,limb,shr_c,hd,htab,hu,Int.zero_add]
      exact gives_eq rfl (by simp [V.weak])
    · obtain ⟨t, h8, ht, htab, hu⟩ := len8' (x / 65536 / 256) (by omega)
      have e : (if x = 0 then 0 else Nat.log2 x + 1) = 24 + t := by
        rw [ht, if_neg (by omega), if_neg (by omega), log2_down x 16 (by omega), log2_down (x / 2 ^ 16) 8 (by omega), show x / 2 ^ 16 = x / 65536 from rfl, show x / 65536 / 2 ^ 8 = x / 65536 / 256 from rfl]
        omega
      rw [e]
      have hd : x / 2 ^ 16 = x / 65536 := rfl
      have hd2 : x / 65536 / 2 ^ 8 = x / 65536 / 256 := rfl
      simp -implicitDefEqProofs (disch := omega) only [↓ZD,ZP,cnd_t,cnd_f,↓reduceIte,Env.put,stepO,lenV,binV,binInt,unV,loadV,sliceV,boundOf,convV,slstrV,if_pos,if_neg,Int.reduceToNat,Nat.reducePow,V.cells,V.isCell,V.boxable,Nat.reduceEqDiff,reduceCtorEq,reduceIte,ite_self,enterEnv,limb,shr_c,hd,hd2,htab,hu,Int.zero_add]
      exact gives_eq rfl (by simp [V.weak])

theorem good61 (hi lo d : Nat) (hd : d < 4294967296) (hh : hi < d) (hl : lo < 4294967296) : Good Go.Proofs.Try.prog 61 [limb hi, limb lo, limb d] (.tup [limb ((hi * 4294967296 + lo) / d), limb ((hi * 4294967296 + lo) % d)]) := by
  refine good_of_run mix s61 (Nat.le_of_ble_eq_true rfl) ?_
  rw [run_go]
  simp only [c61,b61, oQ]
  have h1 : (hi * 4294967296 + lo) / d < 4294967296 := by
    rw [Nat.div_lt_iff_lt_mul (by omega)]
    have := Nat.mul_le_mul_left 4294967296 hh
    omega
  have h2 : (hi * 4294967296 + lo) % d < 4294967296 := Nat.lt_trans (Nat.mod_lt _ (by omega)) hd
  have h3 : (0 : Int) ≤ (((hi * 4294967296 + lo) / d : Nat) : Int) ∧ (((hi * 4294967296 + lo) / d : Nat) : Int) < 4294967296 := ⟨Int.natCast_nonneg _, Int.ofNat_lt.2 h1⟩
  have h4 : (0 : Int) ≤ (((hi * 4294967296 + lo) % d : Nat) : Int) ∧ (((hi * 4294967296 + lo) % d : Nat) : Int) < 4294967296 := ⟨Int.natCast_nonneg _, Int.ofNat_lt.2 h2⟩
  simp -implicitDefEqProofs (disch := omega) only [↓ZD,ZP,cnd_t,cnd_f,↓reduceIte,Env.put,stepO,lenV,binV,binInt,unV,loadV,sliceV,boundOf,convV,slstrV,if_pos,if_neg,Int.reduceToNat,Nat.reducePow,V.cells,V.isCell,V.boxable,Nat.reduceEqDiff,reduceCtorEq,reduceIte,ite_self,enterEnv,limb,bne,shl_c,tdiv_c,tmod_c]
  exact gives_eq rfl rfl

/-- How many bits of 0 lie ahead. -/
def lead (x : Nat) : Nat := 32 - (if x = 0 then 0 else Nat.log2 x + 1)
theorem good64 (x : Nat) (hx : x < 4294967296) : Good Go.Proofs.Try.prog 64 [limb x] (.int .i64 (lead x : Nat)) := by
  refine good_of_run mix s64 (Nat.le_of_ble_eq_true rfl) ?_
  rw [run_go]
  simp only [c64,b64, oQ]
  simp -implicitDefEqProofs (disch := omega) only [↓ZD,ZP,cnd_t,cnd_f,↓reduceIte,Env.put,stepO,lenV,binV,binInt,unV,loadV,sliceV,boundOf,convV,slstrV,if_pos,if_neg,Int.reduceToNat,Nat.reducePow,V.cells,V.isCell,V.boxable,Nat.reduceEqDiff,reduceCtorEq,reduceIte,ite_self,enterEnv]
  refine calP_ro rfl (good82 x hx) rfl ?_
  have hb : (if x = 0 then 0 else Nat.log2 x + 1) ≤ 32 := by
    split
    · omega
    · rename_i h0
      have := (Nat.log2_lt h0 (k := 32)).2 (by omega)
      omega
  simp only [lead]
  generalize (if x = 0 then 0 else Nat.log2 x + 1) = t at hb ⊢
  simp -implicitDefEqProofs (disch := omega) only [↓ZD,ZP,cnd_t,cnd_f,↓reduceIte,Env.put,stepO,lenV,binV,binInt,unV,loadV,sliceV,boundOf,convV,slstrV,if_pos,if_neg,Int.reduceToNat,Nat.reducePow,V.cells,V.isCell,V.boxable,Nat.reduceEqDiff,reduceCtorEq,reduceIte,ite_self,enterEnv]
  refine gives_eq rfl ?_
  simp only [V.weak]
  congr 1
  omega
theorem lead_spec (x : Nat) (h0 : x ≠ 0) (hx : x < 4294967296) : lead x < 32 ∧ 2147483648 ≤ x * 2 ^ lead x ∧ x * 2 ^ lead x < 4294967296 := by
  have h1 := (Nat.log2_eq_iff h0).1 rfl
  have h2 := (Nat.log2_lt h0 (k := 32)).2 (by omega)
  have hl : lead x = 31 - Nat.log2 x := by simp only [lead,if_neg h0]; omega
  rw [hl]
  generalize Nat.log2 x = k at h1 h2
  have e1 : 2 ^ k * 2 ^ (31 - k) = 2147483648 := by rw [← Nat.pow_add, show k + (31 - k) = 31 by omega]
  have e2 : 2 ^ (k + 1) * 2 ^ (31 - k) = 4294967296 := by rw [← Nat.pow_add, show k + 1 + (31 - k) = 32 by omega]
  refine ⟨by omega, ?_, ?_⟩
  · rw [← e1]; exact Nat.mul_le_mul_right _ h1.1
  · rw [← e2]; exact Nat.mul_lt_mul_of_pos_right h1.2 (Nat.two_pow_pos _)
end Fe
open Go Go.Proofs
namespace Fe
def b65 : C :=
 (.seq
 (.region false [
 oQ 4 (.mov (.c (.sl true [] 0)))])
 (.seq
 (.region false [
 oQ 9 (.mov (.t 0)),
 oQ 10 (.len false (.t 9)),
 oQ 11 (.bin 0 .add (.t 10) (.c (.int .i64 1))),
 oQ 12 (.mkslice 1 4 [.int .u32 0] (.t 11) (.t 11)),
 oQ 5 (.mov (.t 12))])
 (.seq
 (.seq
 (.region false [
 oQ 13 (.mov (.t 0)),
 oQ 14 (.len false (.t 13)),
 oQ 15 (.mov (.c (.int .i64 0)))])
 (.block 0
 (.loop
 (.seq
 (.region false [
 oQ 16 (.bin 0 .lss (.t 15) (.t 14))])
 (.seq
 (.cond (.t 16)
 .skip
 (.exit 0))
 (.seq
 (.block 1
 (.seq
 (.region false [
 oQ 17 (.mov (.t 15)),
 oQ 18 (.iaddr 1 (.t 13) (.t 15)),
 oQ 19 (.load false 1 (.t 18)),
 oQ 6 (.mov (.t 17)),
 oQ 7 (.mov (.t 19))])
 (.seq
 (.region false [
 oQ 20 (.mov (.t 7)),
 oQ 21 (.conv (.int .u64) (.t 20)),
 oQ 22 (.mov (.t 1)),
 oQ 23 (.bin 0 .shl (.t 21) (.t 22)),
 oQ 8 (.mov (.t 23))])
 (.seq
 (.region false [
 oQ 24 (.mov (.t 5)),
 oQ 25 (.mov (.t 6)),
 oQ 26 (.iaddr 1 (.t 24) (.t 25)),
 oQ 27 (.load false 1 (.t 26)),
 oQ 28 (.mov (.t 8)),
 oQ 29 (.conv (.int .u32) (.t 28)),
 oQ 30 (.bin 0 .or (.t 27) (.t 29)),
 oQ 31 (.iaddr 1 (.t 24) (.t 25)),
 ⟨none, .op (.store 1 (.t 31) (.t 30)), none⟩])
 (.region false [
 oQ 32 (.mov (.t 5)),
 oQ 33 (.mov (.t 6)),
 oQ 34 (.bin 0 .add (.t 33) (.c (.int .i64 1))),
 oQ 35 (.mov (.t 8)),
 oQ 36 (.bin 0 .shr (.t 35) (.c (.int .u64 32))),
 oQ 37 (.conv (.int .u32) (.t 36)),
 oQ 38 (.iaddr 1 (.t 32) (.t 34)),
 ⟨none, .op (.store 1 (.t 38) (.t 37)), none⟩])))))
 (.region false [
 oQ 39 (.bin 0 .add (.t 15) (.c (.int .i64 1))),
 oQ 15 (.mov (.t 39))])))))))
 (.seq
 (.region false [
 oQ 40 (.mov (.t 5)),
 oQ 4 (.mov (.t 40))])
 .ret))))
def c65 : CF := ⟨41, 2, [.mov (.t 4)], b65⟩
def b69 : C :=
 (.seq
 (.region false [
 oQ 4 (.mov (.c (.sl true [] 0)))])
 (.seq
 (.region false [
 oQ 8 (.mov (.t 0)),
 ⟨some 9, .call false (.c (.fn 60 [] [])) [.t 8], none⟩,
 oQ 5 (.mov (.t 9))])
 (.seq
 (.seq
 (.region false [
 oQ 10 (.mov (.t 5)),
 oQ 11 (.len false (.t 10)),
 oQ 12 (.mov (.c (.int .i64 0)))])
 (.block 0
 (.loop
 (.seq
 (.region false [
 oQ 13 (.bin 0 .lss (.t 12) (.t 11))])
 (.seq
 (.cond (.t 13)
 .skip
 (.exit 0))
 (.seq
 (.block 1
 (.seq
 (.region false [
 oQ 14 (.mov (.t 12)),
 oQ 6 (.mov (.t 14))])
 (.seq
 (.region false [
 oQ 15 (.mov (.t 5)),
 oQ 16 (.mov (.t 6)),
 oQ 17 (.iaddr 1 (.t 15) (.t 16)),
 oQ 18 (.load false 1 (.t 17)),
 oQ 19 (.conv (.int .u64) (.t 18)),
 oQ 7 (.mov (.t 19))])
 (.seq
 (.seq
 (.region false [
 oQ 20 (.mov (.t 6)),
 oQ 21 (.bin 0 .add (.t 20) (.c (.int .i64 1))),
 oQ 22 (.mov (.t 5)),
 oQ 23 (.len false (.t 22)),
 oQ 24 (.bin 0 .lss (.t 21) (.t 23))])
 (.cond (.t 24)
 (.region false [
 oQ 25 (.mov (.t 7)),
 oQ 26 (.mov (.t 5)),
 oQ 27 (.mov (.t 6)),
 oQ 28 (.bin 0 .add (.t 27) (.c (.int .i64 1))),
 oQ 29 (.iaddr 1 (.t 26) (.t 28)),
 oQ 30 (.load false 1 (.t 29)),
 oQ 31 (.conv (.int .u64) (.t 30)),
 oQ 32 (.bin 0 .shl (.t 31) (.c (.int .u64 32))),
 oQ 33 (.bin 0 .or (.t 25) (.t 32)),
 oQ 7 (.mov (.t 33))])
 .skip))
 (.region false [
 oQ 34 (.mov (.t 5)),
 oQ 35 (.mov (.t 6)),
 oQ 36 (.mov (.t 7)),
 oQ 37 (.mov (.t 1)),
 oQ 38 (.bin 0 .shr (.t 36) (.t 37)),
 oQ 39 (.conv (.int .u32) (.t 38)),
 oQ 40 (.iaddr 1 (.t 34) (.t 35)),
 ⟨none, .op (.store 1 (.t 40) (.t 39)), none⟩])))))
 (.region false [
 oQ 41 (.bin 0 .add (.t 12) (.c (.int .i64 1))),
 oQ 12 (.mov (.t 41))])))))))
 (.seq
 (.region false [
 oQ 42 (.mov (.t 5)),
 ⟨some 43, .call false (.c (.fn 36 [] [])) [.t 42], none⟩,
 oQ 4 (.mov (.t 43))])
 .ret))))
def c69 : CF := ⟨44, 2, [.mov (.t 4)], b69⟩
theorem s65 : stripF Go.Proofs.Try.prog 65 = some c65 := by kernel_rfl
theorem s69 : stripF Go.Proofs.Try.prog 69 = some c69 := by kernel_rfl

/-! ### Limbs in memory -/
theorem nl_at (A Z : List Nat) (x : Nat) {i : Nat} (h : A.length = i) : (nl (A ++ x :: Z))[i]? = some (limb x) := by
  subst h; simp [nl]
theorem nl_put (A Z : List Nat) (x y : Nat) {i : Nat} (h : A.length = i) : splice (nl (A ++ x :: Z)) i [V.int .u32 y] = nl (A ++ y :: Z) := by
  subst h
  simp only [splice,nl_app,nl_cons]
  rw [← nl_len A, List.take_left]
  simp [limb]
theorem mk_zeros (n : Nat) : (List.replicate n [V.int .u32 0]).flatten = nl (List.replicate n 0) := by
  induction n with
  | zero => rfl
  | succ n ih => simp only [List.replicate_succ,List.flatten_cons,ih,nl_cons]; rfl

/-- The value of limbs. -/
def val : List Nat → Nat
  | [] => 0
  | x :: r => x + 4294967296 * val r
/-- Limbs below 2^32. -/
def Lm (l : List Nat) : Prop := ∀ x ∈ l, x < 4294967296

/-- Limbs times 2^n, and what is carried. -/
def shl (n : Nat) : Nat → List Nat → List Nat
  | c, [] => [c]
  | c, x :: r => (x * 2 ^ n % 4294967296 + c) :: shl n (x * 2 ^ n / 4294967296) r

theorem shl_len (n : Nat) : ∀ (c : Nat) (l : List Nat), (shl n c l).length = l.length + 1
  | c, [] => rfl
  | c, x :: r => by simp [shl, shl_len n _ r]

theorem or_low {x n c : Nat} (hn : n ≤ 31) (hc : c < 2 ^ n) : c ||| (x * 2 ^ n % 4294967296) = x * 2 ^ n % 4294967296 + c := by
  have h : x * 2 ^ n % 4294967296 = x % 2 ^ (32 - n) * 2 ^ n := by
    have e : (4294967296 : Nat) = 2 ^ (32 - n) * 2 ^ n := by rw [← Nat.pow_add, show 32 - n + n = 32 by omega]
    rw [e, Nat.mul_mod_mul_right]
  rw [h, Nat.or_comm, or_high' hc]

theorem low_sum {x n c : Nat} (hn : n ≤ 31) (hc : c < 2 ^ n) : x * 2 ^ n % 4294967296 + c < 4294967296 := by
  have e : (4294967296 : Nat) = 2 ^ (32 - n) * 2 ^ n := by rw [← Nat.pow_add, show 32 - n + n = 32 by omega]
  have h : x * 2 ^ n % 4294967296 = x % 2 ^ (32 - n) * 2 ^ n := by
    rw [e, Nat.mul_mod_mul_right]
  have h2 : x % 2 ^ (32 - n) + 1 ≤ 2 ^ (32 - n) := Nat.mod_lt _ (Nat.two_pow_pos _)
  have h3 := Nat.mul_le_mul_right (2 ^ n) h2
  rw [← e, Nat.add_mul, Nat.one_mul] at h3
  omega

theorem good65 (ex : Bool) (a : List Nat) (n : Nat) (hn : n ≤ 31) (ha : Lm a) (hl : a.length ≤ 1100000) :
    Good Go.Proofs.Try.prog 65 [nsl ex a, .int .i64 n] (.osl 1 (nl (shl n 0 a)) (a.length + 1)) := by
  refine good_of_run mix s65 (Nat.le_of_ble_eq_true rfl) ?_
  rw [run_go]
  simp only [c65,b65, oQ]
  simp -implicitDefEqProofs (disch := omega) only [↓ZD,ZP,cnd_t,cnd_f,↓reduceIte,Env.put,stepO,lenV,binV,binInt,unV,loadV,sliceV,boundOf,convV,slstrV,if_pos,if_neg,Int.reduceToNat,Nat.reducePow,V.cells,V.isCell,V.boxable,Nat.reduceEqDiff,reduceCtorEq,reduceIte,ite_self,enterEnv,nsl]
  refine go_loop (fun m e H => ∃ A c r, m = r.length ∧ e 13 = nsl ex a ∧ e 14 = .int .i64 a.length ∧ e 15 = .int .i64 A.length ∧ e 1 = .int .i64 n ∧ e 5 = .view 0 0 0 (a.length + 1) ∧ H = [.cells 0 1 true (nl (A ++ c :: List.replicate r.length 0))] ∧
    (∃ B, a = B ++ r ∧ B.length = A.length) ∧ A ++ shl n c r = shl n 0 a ∧ c < 2 ^ n) a.length ⟨[], 0, a, rfl, rfl, rfl, rfl, rfl, ?_, ?_, ⟨[], rfl, rfl⟩, rfl, Nat.two_pow_pos n⟩ ?_
  · simp [Env.set]
  · rw [mk_zeros, List.replicate_succ, List.nil_append]
  rintro m e H ⟨A, c, r, rfl, h13, h14, h15, h1, h5, rfl, ⟨B, rfl, hB⟩, hs, hc⟩
  cases r with
  | nil =>
    simp -implicitDefEqProofs (disch := omega) only [↓ZD,ZP,cnd_t,cnd_f,↓reduceIte,Env.put,stepO,lenV,binV,binInt,unV,loadV,sliceV,boundOf,convV,slstrV,if_pos,if_neg,Int.reduceToNat,Nat.reducePow,V.cells,V.isCell,V.boxable,Nat.reduceEqDiff,reduceCtorEq,reduceIte,ite_self,enterEnv,h13,h14,h15,nsl,h5]
    refine gives_own 0 rfl (nl_ro _) rfl ?_
    rw [← hs]
    rfl
  | cons x r =>
    have hx : x < 4294967296 := ha x (by simp)
    simp only [List.length_append,List.length_cons] at hl
    have g1 := nl_at B r x hB
    have hxn : x * 2 ^ n < 18446744073709551616 := by
      have h2 : 2 ^ n ≤ 2 ^ 31 := Nat.pow_le_pow_right (by decide) hn
      have := Nat.mul_lt_mul_of_lt_of_le hx h2 (by decide)
      omega
    have hor := or_low (x := x) hn hc
    rw [List.length_cons, List.replicate_succ]
    have g2 := nl_at A (0 :: List.replicate r.length 0) c rfl
    have g3 := nl_put A (0 :: List.replicate r.length 0) c (x * 2 ^ n % 4294967296 + c) rfl
    have g4 := nl_put (A ++ [x * 2 ^ n % 4294967296 + c]) (List.replicate r.length 0) 0 (x * 2 ^ n / 4294967296) (i := A.length + 1) (by simp)
    have hsum := low_sum (x := x) hn hc
    have hc32 : c < 4294967296 := by omega
    simp -implicitDefEqProofs (disch := omega) only [↓ZD,ZP,cnd_t,cnd_f,↓reduceIte,Env.put,stepO,lenV,binV,binInt,unV,loadV,sliceV,boundOf,convV,slstrV,if_pos,if_neg,Int.reduceToNat,Nat.reducePow,V.cells,V.isCell,V.boxable,Nat.reduceEqDiff,reduceCtorEq,reduceIte,ite_self,enterEnv,h13,h14,h15,h1,h5,nsl,g1,limb,shl_c,shr_c,w32,g2,hor,g3,nl_len]
    rw [show A ++ (x * 2 ^ n % 4294967296 + c) :: 0 :: List.replicate r.length 0 = A ++ [x * 2 ^ n % 4294967296 + c] ++ 0 :: List.replicate r.length 0 by simp, g4]
    refine ⟨r.length, by omega, A ++ [x * 2 ^ n % 4294967296 + c], x * 2 ^ n / 4294967296, r, rfl, ?_, rfl, ⟨B ++ [x], by simp, by simp [hB]⟩, ?_, ?_⟩
    · simp
    · rw [← hs]; simp [shl]
    · rw [Nat.div_lt_iff_lt_mul (by decide), Nat.mul_comm]
      exact Nat.mul_lt_mul_of_pos_left hx (Nat.two_pow_pos n)

theorem shl_val (n : Nat) : ∀ (c : Nat) (l : List Nat), val (shl n c l) = val l * 2 ^ n + c
  | c, [] => by simp [shl, val]
  | c, x :: r => by
    simp only [shl,val,shl_val n _ r]
    have := Nat.div_add_mod (x * 2 ^ n) 4294967296
    rw [Nat.add_mul, Nat.mul_assoc, Nat.mul_add]
    omega
theorem shl_lm (n : Nat) (hn : n ≤ 31) : ∀ (c : Nat) (l : List Nat), c < 2 ^ n → Lm l → Lm (shl n c l)
  | c, [], hc, _ => by
    intro x hx
    simp only [shl,List.mem_singleton] at hx
    subst hx
    have : 2 ^ n ≤ 2 ^ 31 := Nat.pow_le_pow_right (by decide) hn
    omega
  | c, x :: r, hc, hl => by
    intro y hy
    simp only [shl,List.mem_cons] at hy
    rcases hy with rfl | hy
    · exact low_sum hn hc
    · refine shl_lm n hn _ r ?_ (fun z hz => hl z (List.mem_cons_of_mem _ hz)) y hy
      have hx := hl x (List.mem_cons_self ..)
      rw [Nat.div_lt_iff_lt_mul (by decide), Nat.mul_comm]
      exact Nat.mul_lt_mul_of_pos_left hx (Nat.two_pow_pos n)

/-- Limbs by 2^n. -/
def shr (n : Nat) : List Nat → List Nat
  | [] => []
  | x :: r => ((x + 4294967296 * r.headD 0) / 2 ^ n % 4294967296) :: shr n r

theorem lend_all (own : Bool) (l : List Nat) {n : Nat} (h : l.length = n) : lend 1 [.cells 0 1 own (nl l)] [.view 0 0 0 n] = ([.cells 0 1 false (nl l)], [nf l]) := by
  subst h
  have : (nl l).take l.length = nl l := by rw [← nl_len l, List.take_length]
  simp [lend1, refsL, V.refs, freezeL, HObj.freeze, borL, bor, this, nf, nsl]
theorem good69 (ex : Bool) (a : List Nat) (n : Nat) (hn : n ≤ 31) (ha : Lm a) (hl : a.length ≤ 1100000) :
    Good Go.Proofs.Try.prog 69 [nsl ex a, .int .i64 n] (nf (cut (shr n a))) := by
  refine good_of_run mix s69 (Nat.le_of_ble_eq_true rfl) ?_
  rw [run_go]
  simp only [c69,b69, oQ]
  simp -implicitDefEqProofs (disch := omega) only [↓ZD,ZP,cnd_t,cnd_f,↓reduceIte,Env.put,stepO,lenV,binV,binInt,unV,loadV,sliceV,boundOf,convV,slstrV,if_pos,if_neg,Int.reduceToNat,Nat.reducePow,V.cells,V.isCell,V.boxable,Nat.reduceEqDiff,reduceCtorEq,reduceIte,ite_self,enterEnv]
  by_cases hne : a = []
  · subst hne
    refine calP_ro (nl_ro_1 _ _) (clone60 ex [] (by simp)) (nf_ro _) ?_
    simp -implicitDefEqProofs (disch := omega) only [↓ZD,ZP,cnd_t,cnd_f,↓reduceIte,Env.put,stepO,lenV,binV,binInt,unV,loadV,sliceV,boundOf,convV,slstrV,if_pos,if_neg,Int.reduceToNat,Nat.reducePow,V.cells,V.isCell,V.boxable,Nat.reduceEqDiff,reduceCtorEq,reduceIte,ite_self,enterEnv,nf,nsl]
    refine go_loop (fun m e H => H = [] ∧ e 11 = .int .i64 0 ∧ e 12 = .int .i64 0 ∧ e 5 = nf []) 0 ⟨rfl, by simp [Env.set], by simp [Env.set], rfl⟩ ?_
    rintro m e H ⟨rfl, h11, h12, h5⟩
    simp -implicitDefEqProofs (disch := omega) only [↓ZD,ZP,cnd_t,cnd_f,↓reduceIte,Env.put,stepO,lenV,binV,binInt,unV,loadV,sliceV,boundOf,convV,slstrV,if_pos,if_neg,Int.reduceToNat,Nat.reducePow,V.cells,V.isCell,V.boxable,Nat.reduceEqDiff,reduceCtorEq,reduceIte,ite_self,enterEnv,h11,h12,h5]
    refine calP_ro (nl_ro_1 _ _) (good36 false [] (by simp)) (nsl_ro _ _) ?_
    simp -implicitDefEqProofs (disch := omega) only [↓ZD,ZP,cnd_t,cnd_f,↓reduceIte,Env.put,stepO,lenV,binV,binInt,unV,loadV,sliceV,boundOf,convV,slstrV,if_pos,if_neg,Int.reduceToNat,Nat.reducePow,V.cells,V.isCell,V.boxable,Nat.reduceEqDiff,reduceCtorEq,reduceIte,ite_self,enterEnv]
    exact gives_eq (nsl_ro _ _) rfl
  · have hg := good60 ex a (by omega)
    rw [if_neg hne] at hg
    refine calP_lend 0 lend0 (nl_ro_1 _ _) hg ?_
    simp -implicitDefEqProofs (disch := omega) only [↓ZD,ZP,cnd_t,cnd_f,↓reduceIte,Env.put,stepO,lenV,binV,binInt,unV,loadV,sliceV,boundOf,convV,slstrV,if_pos,if_neg,Int.reduceToNat,Nat.reducePow,V.cells,V.isCell,V.boxable,Nat.reduceEqDiff,reduceCtorEq,reduceIte,ite_self,enterEnv,adopt,adopt1,lend0]
    refine go_loop (fun m e H => ∃ A r, m = r.length ∧ e 11 = .int .i64 a.length ∧ e 12 = .int .i64 A.length ∧ e 1 = .int .i64 n ∧ e 5 = .view 0 0 0 a.length ∧ H = [.cells 0 1 true (nl (A ++ r))] ∧
      (∃ B, a = B ++ r ∧ B.length = A.length) ∧ A ++ shr n r = shr n a) a.length ⟨[], a, rfl, rfl, rfl, by simp [Env.set, enterEnv], by simp [Env.set], rfl, ⟨[], rfl, rfl⟩, rfl⟩ ?_
    rintro m e H ⟨A, r, rfl, h11, h12, h1, h5, rfl, ⟨B, rfl, hB⟩, hs⟩
    simp only [List.length_append] at h11 h5 hl
    cases r with
    | nil =>
      simp only [List.length_nil,Nat.add_zero] at h11 h5
      simp -implicitDefEqProofs (disch := omega) only [↓ZD,ZP,cnd_t,cnd_f,↓reduceIte,Env.put,stepO,lenV,binV,binInt,unV,loadV,sliceV,boundOf,convV,slstrV,if_pos,if_neg,Int.reduceToNat,Nat.reducePow,V.cells,V.isCell,V.boxable,Nat.reduceEqDiff,reduceCtorEq,reduceIte,ite_self,enterEnv,h11,h12,h5]
      simp only [List.append_nil,shr] at hs
      refine calP_lr 1 (lend_all true (A ++ []) (by simp [hB])) (nl_ro_1 _ _) (good36 false (A ++ []) (by simp; omega)) (nsl_ro _ _) fun H'' _ => ?_
      simp -implicitDefEqProofs (disch := omega) only [↓ZD,ZP,cnd_t,cnd_f,↓reduceIte,Env.put,stepO,lenV,binV,binInt,unV,loadV,sliceV,boundOf,convV,slstrV,if_pos,if_neg,Int.reduceToNat,Nat.reducePow,V.cells,V.isCell,V.boxable,Nat.reduceEqDiff,reduceCtorEq,reduceIte,ite_self,enterEnv]
      rw [List.append_nil, hs, List.append_nil]
      exact gives_eq (nsl_ro _ _) rfl
    | cons x r =>
      have hx : x < 4294967296 := ha x (by simp)
      simp only [List.length_cons] at h11 h5 hl
      have g1 := nl_at A r x rfl
      have hx64 : x < 18446744073709551616 := by omega
      cases r with
      | nil =>
        have g2 := nl_put A [] x (x / 2 ^ n % 4294967296) rfl
        simp -implicitDefEqProofs (disch := omega) only [↓ZD,ZP,cnd_t,cnd_f,↓reduceIte,Env.put,stepO,lenV,binV,binInt,unV,loadV,sliceV,boundOf,convV,slstrV,if_pos,if_neg,Int.reduceToNat,Nat.reducePow,V.cells,V.isCell,V.boxable,Nat.reduceEqDiff,reduceCtorEq,reduceIte,ite_self,enterEnv,h11,h12,h1,h5,g1,limb,shr_c,w32,nl_len,g2]
        refine ⟨0, by omega, A ++ [x / 2 ^ n % 4294967296], [], rfl, by simp, by simp, ⟨B ++ [x], by simp, by simp [hB]⟩, ?_⟩
        rw [← hs]; simp [shr]
      | cons y r =>
        have hy : y < 4294967296 := ha y (by simp)
        have g2 := nl_at (A ++ [x]) r y (i := A.length + 1) (by simp)
        rw [List.append_assoc, List.singleton_append] at g2
        have g3 := nl_put A (y :: r) x ((y * 4294967296 + x) / 2 ^ n % 4294967296) rfl
        simp only [List.length_cons] at h11 h5 hl
        have ho : x ||| y * 4294967296 = y * 4294967296 + x := by rw [Nat.or_comm]; exact or_high hx
        simp -implicitDefEqProofs (disch := omega) only [↓ZD,ZP,cnd_t,cnd_f,↓reduceIte,Env.put,stepO,lenV,binV,binInt,unV,loadV,sliceV,boundOf,convV,slstrV,if_pos,if_neg,Int.reduceToNat,Nat.reducePow,V.cells,V.isCell,V.boxable,Nat.reduceEqDiff,reduceCtorEq,reduceIte,ite_self,enterEnv,h11,h12,h1,h5,g1,g2,limb,shl_c,shr_c,w32,nl_len,ho,g3]
        refine ⟨r.length + 1, by omega, A ++ [(y * 4294967296 + x) / 2 ^ n % 4294967296], y :: r, rfl, by simp, by simp, ⟨B ++ [x], by simp, by simp [hB]⟩, ?_⟩
        rw [← hs]
        simp [shr]
        congr 2
        omega
end Fe
