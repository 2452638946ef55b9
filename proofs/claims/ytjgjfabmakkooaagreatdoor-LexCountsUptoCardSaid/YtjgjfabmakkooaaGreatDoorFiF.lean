/-
  Contracts; contracts. No condition.
-/
import Derived.Test.YtjgjfabmakkooaaGreatDoorFhJ
set_option linter.unusedSimpArgs false
set_option linter.unusedVariables false
open Go Go.Proofs
open Go.RowKit
namespace Fe
def b460 : C :=
 (.seq
 (.region false [
 oQ 4 (.mov (.c (.int .i64 0)))])
 (.seq
 (.seq
 (.region false [
 oQ 6 (.mov (.t 0)),
 oQ 7 (.len false (.t 6)),
 oQ 8 (.mov (.c (.int .i64 0)))])
 (.block 0
 (.loop
 (.seq
 (.region false [
 oQ 9 (.bin 0 .lss (.t 8) (.t 7))])
 (.seq
 (.cond (.t 9)
 .skip
 (.exit 0))
 (.seq
 (.block 1
 (.seq
 (.region false [
 oQ 10 (.mov (.t 8)),
 oQ 5 (.mov (.t 10))])
 (.seq
 (.region false [
 oQ 11 (.mov (.t 1)),
 oQ 12 (.mov (.t 0)),
 oQ 13 (.mov (.t 5)),
 oQ 14 (.iaddr 1 (.t 12) (.t 13)),
 oQ 15 (.load false 1 (.t 14)),
 oQ 16 (.bin 0 .eql (.t 11) (.t 15))])
 (.cond (.t 16)
 (.seq
 (.region false [
 oQ 17 (.mov (.t 5)),
 oQ 4 (.mov (.t 17))])
 .ret)
 .skip))))
 (.region false [
 oQ 18 (.bin 0 .add (.t 8) (.c (.int .i64 1))),
 oQ 8 (.mov (.t 18))])))))))
 (.seq
 (.region false [
 oQ 4 (.mov (.c (.int .i64 (-1))))])
 .ret)))
def c460 : CF := ⟨19, 2, [.mov (.t 4)], b460⟩
def b432 : C :=
 (.seq
 (.region false [
 oQ 4 (.mov (.c (.bool false)))])
 (.seq
 (.region false [
 oQ 5 (.mov (.t 0)),
 oQ 6 (.mov (.t 1)),
 ⟨some 7, .call false (.c (.fn 60 [] [])) [.t 5, .t 6], none⟩,
 oQ 8 (.bin 0 .geq (.t 7) (.c (.int .i64 0))),
 oQ 4 (.mov (.t 8))])
 .ret))
def c432 : CF := ⟨9, 2, [.mov (.t 4)], b432⟩
def b431 : C :=
 (.seq
 (.region false [
 oQ 2 (.box (.t 0)),
 oQ 3 (.mov (.c (.bool false)))])
 (.seq
 (.region false [
 oQ 4 (.load false 1 (.t 1)),
 oQ 5 (.faddr 0 (.t 2)),
 oQ 6 (.load false 1 (.t 5)),
 ⟨some 7, .call false (.c (.fn 32 [] [])) [.t 4, .t 6], none⟩,
 oQ 3 (.mov (.t 7))])
 .ret))
def c431 : CF := ⟨8, 1, [.mov (.t 3)], b431⟩
def b459 : C :=
 (.seq
 (.region false [
 oQ 4 (.mov (.c (.int .i64 0)))])
 (.seq
 (.seq
 (.region false [
 oQ 6 (.mov (.t 0)),
 oQ 7 (.len false (.t 6)),
 oQ 8 (.mov (.c (.int .i64 0)))])
 (.block 0
 (.loop
 (.seq
 (.region false [
 oQ 9 (.bin 0 .lss (.t 8) (.t 7))])
 (.seq
 (.cond (.t 9)
 .skip
 (.exit 0))
 (.seq
 (.block 1
 (.seq
 (.region false [
 oQ 10 (.mov (.t 8)),
 oQ 5 (.mov (.t 10))])
 (.seq
 (.region false [
 oQ 11 (.mov (.t 1)),
 oQ 12 (.mov (.t 0)),
 oQ 13 (.mov (.t 5)),
 oQ 14 (.iaddr 5 (.t 12) (.t 13)),
 oQ 15 (.load true 5 (.t 14)),
 ⟨some 16, .call false (.t 11) [.t 15], none⟩])
 (.cond (.t 16)
 (.seq
 (.region false [
 oQ 17 (.mov (.t 5)),
 oQ 4 (.mov (.t 17))])
 .ret)
 .skip))))
 (.region false [
 oQ 18 (.bin 0 .add (.t 8) (.c (.int .i64 1))),
 oQ 8 (.mov (.t 18))])))))))
 (.seq
 (.region false [
 oQ 4 (.mov (.c (.int .i64 (-1))))])
 .ret)))
def c459 : CF := ⟨19, 2, [.mov (.t 4)], b459⟩
def b430 : C :=
 (.seq
 (.region false [
 oQ 4 (.mov (.c (.sl true [] 0)))])
 (.seq
 (.region false [
 oQ 8 (.mov (.t 0)),
 oQ 9 (.mov (.t 1)),
 ⟨some 10, .call false (.c (.fn 59 [] [])) [.t 8, .t 9], none⟩,
 oQ 5 (.mov (.t 10))])
 (.seq
 (.seq
 (.region false [
 oQ 11 (.mov (.t 5)),
 oQ 12 (.bin 0 .eql (.t 11) (.c (.int .i64 (-1))))])
 (.cond (.t 12)
 (.seq
 (.region false [
 oQ 13 (.mov (.t 0)),
 oQ 4 (.mov (.t 13))])
 .ret)
 .skip))
 (.seq
 (.seq
 (.region false [
 oQ 14 (.mov (.t 5)),
 oQ 15 (.bin 0 .add (.t 14) (.c (.int .i64 1))),
 oQ 6 (.mov (.t 15))])
 (.block 0
 (.loop
 (.seq
 (.seq
 (.region false [
 oQ 16 (.mov (.t 6)),
 oQ 17 (.mov (.t 0)),
 oQ 18 (.len false (.t 17)),
 oQ 19 (.bin 0 .lss (.t 16) (.t 18))])
 (.cond (.t 19)
 .skip
 (.exit 0)))
 (.seq
 (.block 1
 (.seq
 (.region false [
 oQ 22 (.mov (.t 0)),
 oQ 23 (.mov (.t 6)),
 oQ 24 (.iaddr 5 (.t 22) (.t 23)),
 oQ 25 (.load true 5 (.t 24)),
 oQ 7 (.box (.c (.agg [.int .u8 0, .str [], .int .i64 0, .sl true [] 0, .sl true [] 0]))),
 ⟨none, .op (.store 5 (.t 7) (.t 25)), none⟩])
 (.seq
 (.region false [
 oQ 26 (.mov (.t 1)),
 oQ 27 (.load true 5 (.t 7)),
 ⟨some 28, .call false (.t 26) [.t 27], none⟩,
 oQ 29 (.un .not (.t 28))])
 (.cond (.t 29)
 (.seq
 (.region false [
 oQ 30 (.mov (.t 0)),
 oQ 31 (.mov (.t 5)),
 oQ 32 (.load true 5 (.t 7)),
 oQ 33 (.iaddr 5 (.t 30) (.t 31)),
 ⟨none, .op (.store 5 (.t 33) (.t 32)), none⟩])
 (.region false [
 oQ 34 (.mov (.t 5)),
 oQ 35 (.bin 0 .add (.t 34) (.c (.int .i64 1))),
 oQ 5 (.mov (.t 35))]))
 .skip))))
 (.region false [
 oQ 20 (.mov (.t 6)),
 oQ 21 (.bin 0 .add (.t 20) (.c (.int .i64 1))),
 oQ 6 (.mov (.t 21))]))))))
 (.seq
 (.region false [
 oQ 36 (.mov (.t 0)),
 oQ 37 (.mov (.t 5)),
 oQ 38 (.slice 5 (.t 36) (some (.t 37)) none none),
 ⟨none, .op (.clear 5 [.int .u8 0, .str [], .int .i64 0, .sl true [] 0, .sl true [] 0] (.t 38)), none⟩])
 (.seq
 (.region false [
 oQ 39 (.mov (.t 0)),
 oQ 40 (.mov (.t 5)),
 oQ 41 (.slice 5 (.t 39) none (some (.t 40)) none),
 oQ 4 (.mov (.t 41))])
 .ret))))))
def c430 : CF := ⟨42, 2, [.mov (.t 4)], b430⟩
def b418 : C :=
 (.seq
 (.region false [
 oQ 2 (.mov (.c (.str [])))])
 (.seq
 (.region false [
 oQ 3 (.mov (.c (.str [39])))])
 (.seq
 (.seq
 (.region false [
 oQ 4 (.mov (.c (.int .i64 0)))])
 (.block 0
 (.loop
 (.seq
 (.seq
 (.region false [
 oQ 5 (.mov (.t 4)),
 oQ 6 (.mov (.t 0)),
 oQ 7 (.len true (.t 6)),
 oQ 8 (.bin 0 .lss (.t 5) (.t 7))])
 (.cond (.t 8)
 .skip
 (.exit 0)))
 (.seq
 (.block 1
 (.seq
 (.seq
 (.region false [
 oQ 11 (.mov (.t 0)),
 oQ 12 (.mov (.t 4)),
 oQ 13 (.index (.t 11) (.t 12)),
 oQ 14 (.bin 0 .eql (.t 13) (.c (.int .u8 39)))])
 (.cond (.t 14)
 (.region false [
 oQ 15 (.mov (.t 3)),
 oQ 16 (.bin 0 .add (.t 15) (.c (.str [39]))),
 oQ 3 (.mov (.t 16))])
 .skip))
 (.region false [
 oQ 17 (.mov (.t 3)),
 oQ 18 (.mov (.t 0)),
 oQ 19 (.mov (.t 4)),
 oQ 20 (.mov (.t 4)),
 oQ 21 (.bin 0 .add (.t 20) (.c (.int .i64 1))),
 oQ 22 (.slstr (.t 18) (some (.t 19)) (some (.t 21))),
 oQ 23 (.bin 0 .add (.t 17) (.t 22)),
 oQ 3 (.mov (.t 23))])))
 (.region false [
 oQ 9 (.mov (.t 4)),
 oQ 10 (.bin 0 .add (.t 9) (.c (.int .i64 1))),
 oQ 4 (.mov (.t 10))]))))))
 (.seq
 (.region false [
 oQ 24 (.mov (.t 3)),
 oQ 25 (.bin 0 .add (.t 24) (.c (.str [39]))),
 oQ 2 (.mov (.t 25))])
 .ret))))
def c418 : CF := ⟨26, 1, [.mov (.t 2)], b418⟩
theorem s460 : stripF Go.Proofs.Tryz.prog 60 = some c460 := by kernel_rfl
theorem s432 : stripF Go.Proofs.Tryz.prog 32 = some c432 := by kernel_rfl
theorem s431 : stripF Go.Proofs.Tryz.prog 31 = some c431 := by kernel_rfl
theorem s459 : stripF Go.Proofs.Tryz.prog 59 = some c459 := by kernel_rfl
theorem s430 : stripF Go.Proofs.Tryz.prog 30 = some c430 := by kernel_rfl
theorem s418 : stripF Go.Proofs.Tryz.prog 18 = some c418 := by kernel_rfl

/-- Kinds, as cells. -/
def kI (ks : List Int) : List V := ks.map fun k => .int .u8 k
theorem kI_len (ks : List Int) : (kI ks).length = ks.length := by simp [kI]
theorem kI_ro : ∀ ks : List Int, roL (kI ks) = true
  | [] => rfl
  | k :: ks => by simp only [kI,List.map_cons,roL,V.ro,Bool.true_and]; exact kI_ro ks
theorem kI_at {ks : List Int} {j : Nat} (h : j < ks.length) : (kI ks)[j]? = some (.int .u8 ks[j]) := by simp [kI, h]
/-- The first place of a kind; -1: none. -/
def fK (k : Int) : List Int → Int → Int
  | [], _ => -1
  | a :: ks, j => if k = a then j else fK k ks (j + 1)
theorem fK_ge (k : Int) : ∀ (ks : List Int) (j : Int), 0 ≤ j → (decide (0 ≤ fK k ks j)) = decide (k ∈ ks)
  | [], j, h => by simp [fK]
  | a :: ks, j, h => by
    rw [fK]
    by_cases hk : k = a
    · rw [if_pos hk]; simp [hk, h]
    · rw [if_neg hk, fK_ge k ks (j + 1) (by omega)]; simp [hk]

theorem good460 (ex : Bool) (ks : List Int) (k : Int) (hl : ks.length ≤ 4611686018427387904) : Good Go.Proofs.Tryz.prog 60 [.sl ex (kI ks) ks.length, .int .u8 k] (.int .i64 (fK k ks 0)) := by
  refine good_go mix s460 (Nat.le_of_ble_eq_true rfl) fun e he => ?_
  have e0 : e 0 = .sl ex (kI ks) ks.length := he 0
  have e1 : e 1 = .int .u8 k := he 1
  clear he
  simp only [c460,b460, oQ]
  simp -implicitDefEqProofs (disch := omega) only [↓ZD,ZP,cnd_t,cnd_f,↓reduceIte,Env.put,stepO,lenV,binV,binInt,unV,loadV,sliceV,boundOf,convV,slstrV,if_pos,if_neg,Int.reduceToNat,Nat.reducePow,V.cells,V.isCell,V.boxable,Nat.reduceEqDiff,reduceCtorEq,reduceIte,ite_self,enterEnv,e0,e1]
  refine go_loop (fun m e H => ∃ j : Nat, j ≤ ks.length ∧ m = ks.length - j ∧ fK k ks 0 = fK k (ks.drop j) (j : Nat) ∧ e 0 = .sl ex (kI ks) ks.length ∧ e 1 = .int .u8 k ∧ e 7 = .int .i64 (ks.length : Nat) ∧ e 8 = .int .i64 (j : Nat)) ks.length
    ⟨0, Nat.zero_le _, rfl, rfl, by simp [Env.set, e0], by simp [Env.set, e1], by simp [Env.set], by simp [Env.set]⟩ ?_
  clear e0 e1
  rintro m e H ⟨j, hj, rfl, hf, e0, e1, e7, e8⟩
  rcases Nat.lt_or_ge j ks.length with hlt | hge
  · have hat := kI_at hlt
    have hkl := kI_len ks
    have hd : ks.drop j = ks[j] :: ks.drop (j + 1) := (List.getElem_cons_drop hlt).symm
    rw [hd, fK] at hf
    simp -implicitDefEqProofs (disch := omega) only [↓ZD,ZP,cnd_t,cnd_f,↓reduceIte,Env.put,stepO,lenV,binV,binInt,unV,loadV,sliceV,boundOf,convV,slstrV,if_pos,if_neg,Int.reduceToNat,Nat.reducePow,V.cells,V.isCell,V.boxable,Nat.reduceEqDiff,reduceCtorEq,reduceIte,ite_self,enterEnv,e0,e1,e7,e8,hat,hlt,hkl]
    by_cases hk : k = ks[j]
    · rw [if_pos hk] at hf
      have hb : (k == ks[j]) = true := by simpa using hk
      rw [hf]
      simp -implicitDefEqProofs (disch := omega) only [↓ZD,ZP,cnd_t,cnd_f,↓reduceIte,Env.put,stepO,lenV,binV,binInt,unV,loadV,sliceV,boundOf,convV,slstrV,if_pos,if_neg,Int.reduceToNat,Nat.reducePow,V.cells,V.isCell,V.boxable,Nat.reduceEqDiff,reduceCtorEq,reduceIte,ite_self,enterEnv,e0,e1,e7,e8,hb]
      exact gives_eq rfl rfl
    · rw [if_neg hk] at hf
      have hb : (k == ks[j]) = false := by simpa using hk
      simp -implicitDefEqProofs (disch := omega) only [↓ZD,ZP,cnd_t,cnd_f,↓reduceIte,Env.put,stepO,lenV,binV,binInt,unV,loadV,sliceV,boundOf,convV,slstrV,if_pos,if_neg,Int.reduceToNat,Nat.reducePow,V.cells,V.isCell,V.boxable,Nat.reduceEqDiff,reduceCtorEq,reduceIte,ite_self,enterEnv,e0,e1,e7,e8,hb]
      exact ⟨_, by omega, j + 1, by omega, rfl, hf, by simp⟩
  · have hnl : ¬ j < ks.length := by omega
    have hjl : j = ks.length := by omega
    subst hjl
    rw [List.drop_length, fK] at hf
    rw [hf]
    simp -implicitDefEqProofs (disch := omega) only [↓ZD,ZP,cnd_t,cnd_f,↓reduceIte,Env.put,stepO,lenV,binV,binInt,unV,loadV,sliceV,boundOf,convV,slstrV,if_pos,if_neg,Int.reduceToNat,Nat.reducePow,V.cells,V.isCell,V.boxable,Nat.reduceEqDiff,reduceCtorEq,reduceIte,ite_self,enterEnv,e0,e1,e7,e8,hnl]
    exact gives_eq rfl rfl

theorem good432 (ex : Bool) (ks : List Int) (k : Int) (hl : ks.length ≤ 4611686018427387904) : Good Go.Proofs.Tryz.prog 32 [.sl ex (kI ks) ks.length, .int .u8 k] (.bool (decide (k ∈ ks))) := by
  refine good_go mix s432 (Nat.le_of_ble_eq_true rfl) fun e he => ?_
  have e0 : e 0 = .sl ex (kI ks) ks.length := he 0
  have e1 : e 1 = .int .u8 k := he 1
  clear he
  simp only [c432,b432, oQ]
  have hg := good460 ex ks k hl
  have hge := fK_ge k ks 0 (by omega)
  simp -implicitDefEqProofs (disch := omega) only [↓ZD,ZP,cnd_t,cnd_f,↓reduceIte,Env.put,stepO,lenV,binV,binInt,unV,loadV,sliceV,boundOf,convV,slstrV,if_pos,if_neg,Int.reduceToNat,Nat.reducePow,V.cells,V.isCell,V.boxable,Nat.reduceEqDiff,reduceCtorEq,reduceIte,ite_self,enterEnv,e0,e1]
  refine calP_ro (by simp [roL, V.ro, kI_ro]) hg rfl ?_
  simp -implicitDefEqProofs (disch := omega) only [↓ZD,ZP,cnd_t,cnd_f,↓reduceIte,Env.put,stepO,lenV,binV,binInt,unV,loadV,sliceV,boundOf,convV,slstrV,if_pos,if_neg,Int.reduceToNat,Nat.reducePow,V.cells,V.isCell,V.boxable,Nat.reduceEqDiff,reduceCtorEq,reduceIte,ite_self,enterEnv,e0,e1]
  exact gives_eq rfl (by rw [← hge]; rfl)

theorem good431 (t : List V) (kind : Nat) (r : List V) (ht : t = .int .u8 (kind : Nat) :: r) (hr : r.length = 4) (hro : roL r = true) (hc : r.all V.isCell = true) (ex : Bool) (ks : List Int) (hl : ks.length ≤ 4611686018427387904) :
    Good Go.Proofs.Tryz.prog 31 [.agg t, .rptr [.sl ex (kI ks) ks.length] 0] (.bool (decide ((kind : Int) ∈ ks))) := by
  subst ht
  refine good_go mix s431 (Nat.le_of_ble_eq_true rfl) fun e he => ?_
  have e0 : e 0 = .agg (.int .u8 (kind : Nat) :: r) := he 0
  have e1 : e 1 = .rptr [.sl ex (kI ks) ks.length] 0 := he 1
  clear he
  simp only [c431,b431, oQ]
  have hg := good432 ex ks (kind : Nat) hl
  simp -implicitDefEqProofs (disch := omega) only [↓ZD,ZP,cnd_t,cnd_f,↓reduceIte,Env.put,stepO,lenV,binV,binInt,unV,loadV,sliceV,boundOf,convV,slstrV,if_pos,if_neg,Int.reduceToNat,Nat.reducePow,V.cells,V.isCell,V.boxable,Nat.reduceEqDiff,reduceCtorEq,reduceIte,ite_self,enterEnv,e0,e1]
  refine calP_ro (by simp [roL, V.ro, kI_ro]) hg rfl ?_
  simp -implicitDefEqProofs (disch := omega) only [↓ZD,ZP,cnd_t,cnd_f,↓reduceIte,Env.put,stepO,lenV,binV,binInt,unV,loadV,sliceV,boundOf,convV,slstrV,if_pos,if_neg,Int.reduceToNat,Nat.reducePow,V.cells,V.isCell,V.boxable,Nat.reduceEqDiff,reduceCtorEq,reduceIte,ite_self,enterEnv,e0,e1]
  exact gives_eq rfl rfl

theorem dbl_snoc : ∀ (A : List UInt8) (c : UInt8), dbl (A ++ [c]) = dbl A ++ (if c = 39 then [39, 39] else [c])
  | [], c => by simp only [List.nil_append,dbl]
  | a :: A, c => by
    simp only [List.cons_append,dbl,dbl_snoc A c]
    split <;> rfl
theorem good418 (s : List UInt8) (hs : s.length ≤ 1100000) : Good Go.Proofs.Tryz.prog 18 [.str s] (.str (quoteB s)) := by
  refine good_go mix s418 (Nat.le_of_ble_eq_true rfl) fun e he => ?_
  have e0 : e 0 = .str s := he 0
  clear he
  simp only [c418,b418, oQ]
  simp -implicitDefEqProofs (disch := omega) only [↓ZD,ZP,cnd_t,cnd_f,↓reduceIte,Env.put,stepO,lenV,binV,binInt,unV,loadV,sliceV,boundOf,convV,slstrV,if_pos,if_neg,Int.reduceToNat,Nat.reducePow,V.cells,V.isCell,V.boxable,Nat.reduceEqDiff,reduceCtorEq,reduceIte,ite_self,enterEnv,e0]
  refine go_loop (fun m e H => ∃ A Z, s = A ++ Z ∧ m = Z.length ∧ e 0 = .str s ∧ e 3 = .str (39 :: dbl A) ∧ e 4 = .int .i64 (A.length : Nat)) s.length ⟨[], s, rfl, rfl, by simp [Env.set, e0], by simp [Env.set, dbl], by simp [Env.set]⟩ ?_
  clear e0
  rintro m e H ⟨A, Z, hAZ, rfl, e0, e3, e4⟩
  have hdl := dbl_len A
  cases Z with
  | cons c Z =>
    have hlt : A.length < s.length := by rw [hAZ]; simp
    have hAl : A.length + 1 ≤ s.length := hlt
    have hat : s[A.length]? = some c := by rw [hAZ]; simp
    have hsl : (s.drop A.length).take 1 = [c] := by rw [hAZ]; simp
    have hda : dbl (A ++ [c]) = dbl A ++ (if c = 39 then [39, 39] else [c]) := dbl_snoc A c
    have hone : (((A.length + 1 : Nat) : Int) - (A.length : Nat)).toNat = 1 := by omega
    have h39 : (((39 : UInt8).toNat : Int) == 39) = true := rfl
    by_cases hc : c = 39
    · subst hc
      simp -implicitDefEqProofs (disch := omega) only [↓ZD,ZP,cnd_t,cnd_f,↓reduceIte,Env.put,stepO,lenV,binV,binInt,unV,loadV,sliceV,boundOf,convV,slstrV,if_pos,if_neg,Int.reduceToNat,Nat.reducePow,V.cells,V.isCell,V.boxable,Nat.reduceEqDiff,reduceCtorEq,reduceIte,ite_self,enterEnv,e0,e3,e4,hlt,hat,hone,hsl,binStr,hAl,h39]
      rw [if_pos rfl] at hda
      exact ⟨_, by omega, A ++ [39], Z, by rw [hAZ]; simp, rfl, by rw [hda]; simp, by simp⟩
    · have hcn : ((c.toNat : Int) == 39) = false := by
        have : c.toNat ≠ 39 := fun h => hc (UInt8.toNat_inj.1 (by simpa using h))
        simp; omega
      simp -implicitDefEqProofs (disch := omega) only [↓ZD,ZP,cnd_t,cnd_f,↓reduceIte,Env.put,stepO,lenV,binV,binInt,unV,loadV,sliceV,boundOf,convV,slstrV,if_pos,if_neg,Int.reduceToNat,Nat.reducePow,V.cells,V.isCell,V.boxable,Nat.reduceEqDiff,reduceCtorEq,reduceIte,ite_self,enterEnv,e0,e3,e4,hlt,hat,hone,hsl,binStr,hAl,hcn]
      rw [if_neg hc] at hda
      exact ⟨_, by omega, A ++ [c], Z, by rw [hAZ]; simp, rfl, by rw [hda], by simp⟩
  | nil =>
    rw [List.append_nil] at hAZ
    subst hAZ
    have hnl : ¬ s.length < s.length := by omega
    simp -implicitDefEqProofs (disch := omega) only [↓ZD,ZP,cnd_t,cnd_f,↓reduceIte,Env.put,stepO,lenV,binV,binInt,unV,loadV,sliceV,boundOf,convV,slstrV,if_pos,if_neg,Int.reduceToNat,Nat.reducePow,V.cells,V.isCell,V.boxable,Nat.reduceEqDiff,reduceCtorEq,reduceIte,ite_self,enterEnv,e0,e3,e4,hnl,binStr]
    exact gives_eq rfl rfl

/-- Rows of cells, all as long. -/
theorem flatC_len (c : Nat) : ∀ (l : List (List V)), (∀ t ∈ l, t.length = c) → l.flatten.length = l.length * c
  | [], _ => by simp
  | t :: l, h => by
    rw [List.flatten_cons, List.length_append, flatC_len c l (fun x hx => h x (List.mem_cons_of_mem _ hx)), h t (List.mem_cons_self ..), List.length_cons, Nat.succ_mul]
    omega
theorem split_at {l : List (List V)} {i : Nat} (h : i < l.length) : l = l.take i ++ l[i] :: l.drop (i + 1) := by
  rw [List.getElem_cons_drop, List.take_append_drop]
theorem flatC_at {c : Nat} {l : List (List V)} (h : ∀ t ∈ l, t.length = c) {i : Nat} (hi : i < l.length) : (l.flatten.drop (i * c)).take c = l[i] := by
  have h1 : (l.take i).flatten.length = i * c := by
    rw [flatC_len c _ fun x hx => h x (List.mem_of_mem_take hx), List.length_take]; congr 1; omega
  have h2 : l.flatten = (l.take i).flatten ++ (l[i] ++ (l.drop (i + 1)).flatten) := by
    have := congrArg List.flatten (split_at hi)
    rwa [List.flatten_append, List.flatten_cons] at this
  have h3 : l[i].length = c := h _ (List.getElem_mem hi)
  rw [h2, ← h1, List.drop_left, ← h3, List.take_left]
theorem flatC_set {c : Nat} {l : List (List V)} (h : ∀ t ∈ l, t.length = c) {i : Nat} (hi : i < l.length) {t : List V} (ht : t.length = c) : splice l.flatten (i * c) t = (l.set i t).flatten := by
  have h1 : (l.take i).flatten.length = i * c := by
    rw [flatC_len c _ fun x hx => h x (List.mem_of_mem_take hx), List.length_take]; congr 1; omega
  have h2 : l.flatten = (l.take i).flatten ++ (l[i] ++ (l.drop (i + 1)).flatten) := by
    have := congrArg List.flatten (split_at hi)
    rwa [List.flatten_append, List.flatten_cons] at this
  have h3 : l[i].length = c := h _ (List.getElem_mem hi)
  have h4 : l.set i t = l.take i ++ t :: l.drop (i + 1) := List.set_eq_take_append_cons_drop.trans (by rw [if_pos hi])
  have h5 : (l.flatten).drop (i * c + t.length) = (l.drop (i + 1)).flatten := by
    rw [h2, ← h1, ← List.drop_drop, List.drop_left, ht, ← h3, List.drop_left]
  have h6 : l.flatten.take (i * c) = (l.take i).flatten := by
    rw [h2, ← h1, List.take_left]
  rw [splice, h5, h6, h4]
  simp

/-- A call of a function that holds what hangs on no heap. -/
theorem calP_roc {P : Program} {f : FuncId} {ar cap : List V} {r : V} {d : Option Nat} {lim : Option Nat} {os : List Op} {e : Env} {H : Heap} {S : List Fr} {K : Cont} (hro : roL (ar ++ cap) = true) (hg : Good P f (ar ++ cap) r) (hr : r.ro = true) (h : ops P lim os (e.put d r) H S K) : calP P (.fn f [] cap) ar d lim os e H S K := by
  have ha : [] ++ ar ++ cap = ar ++ cap := by simp
  refine .inl (callC_callD ⟨r, ?_, hr, ?_, h⟩)
  · rw [ha]; exact hro
  · rw [ha]; exact hg
/-- One that holds a place of the heap. -/
theorem calP_lendc (n : Nat) {P : Program} {f : FuncId} {ar as' cap : List V} {r : V} {d : Option Nat} {lim : Option Nat} {os : List Op} {e : Env} {H H' : Heap} {S : List Fr} {K : Cont} (hl : lend n H (ar ++ cap) = (H', as')) (hro : roL as' = true) (hg : Good P f as' r) (hr : r.ro = true) (hlo : r.loose = true) (h : ops P lim os (e.put d r) H S K) :
    calP P (.fn f [] cap) ar d lim os e H S K := by
  have ha : [] ++ ar ++ cap = ar ++ cap := by simp
  refine .inl ⟨n, r, ?_, ?_, ?_⟩
  · rw [ha, hl]; exact hro
  · rw [ha, hl]; exact hg
  · rw [ha, hl, if_pos hlo, adopt_ro hr]; exact h

/-- The first token that is to go; -1: none. -/
def fT (p : List V → Bool) : List (List V) → Int → Int
  | [], _ => -1
  | t :: ts, j => if p t = true then j else fT p ts (j + 1)

/-- A test of tokens. -/
structure TestOf (P : Program) (f : FuncId) (cap : List V) (p : List V → Bool) (T : List (List V)) : Prop where
  len : ∀ t ∈ T, t.length = 5
  ro : roL T.flatten = true
  cell : ∀ t ∈ T, t.all V.isCell = true
  capro : roL cap = true
  good : ∀ t ∈ T, Good P f ([.agg t] ++ cap) (.bool (p t))

theorem TestOf.roat {P : Program} {f : FuncId} {cap : List V} {p : List V → Bool} {T : List (List V)} (h : TestOf P f cap p T) {t : List V} (ht : t ∈ T) : roL t = true :=
  roL_of fun v hv => roL_mem h.ro v (List.mem_flatten.2 ⟨t, ht, hv⟩)

theorem good459 (f : FuncId) (cap : List V) (p : List V → Bool) (ex : Bool) (T : List (List V)) (h : TestOf Go.Proofs.Tryz.prog f cap p T) (hl : T.length ≤ 100000) : Good Go.Proofs.Tryz.prog 59 [.sl ex T.flatten T.length, .fn f [] cap] (.int .i64 (fT p T 0)) := by
  refine good_go mix s459 (Nat.le_of_ble_eq_true rfl) fun e he => ?_
  have e0 : e 0 = .sl ex T.flatten T.length := he 0
  have e1 : e 1 = .fn f [] cap := he 1
  clear he
  simp only [c459,b459, oQ]
  simp -implicitDefEqProofs (disch := omega) only [↓ZD,ZP,cnd_t,cnd_f,↓reduceIte,Env.put,stepO,lenV,binV,binInt,unV,loadV,sliceV,boundOf,convV,slstrV,if_pos,if_neg,Int.reduceToNat,Nat.reducePow,V.cells,V.isCell,V.boxable,Nat.reduceEqDiff,reduceCtorEq,reduceIte,ite_self,enterEnv,e0,e1]
  refine go_loop (fun m e H => ∃ j : Nat, j ≤ T.length ∧ m = T.length - j ∧ fT p T 0 = fT p (T.drop j) (j : Nat) ∧ e 0 = .sl ex T.flatten T.length ∧ e 1 = .fn f [] cap ∧ e 7 = .int .i64 (T.length : Nat) ∧ e 8 = .int .i64 (j : Nat)) T.length
    ⟨0, Nat.zero_le _, rfl, rfl, by simp [Env.set, e0], by simp [Env.set, e1], by simp [Env.set], by simp [Env.set]⟩ ?_
  clear e0 e1
  rintro m e H ⟨j, hj, rfl, hf, e0, e1, e7, e8⟩
  rcases Nat.lt_or_ge j T.length with hlt | hge
  · have hat := flatC_at h.len hlt
    have hfl := flatC_len 5 T h.len
    have hmem : T[j] ∈ T := List.getElem_mem hlt
    have hd : T.drop j = T[j] :: T.drop (j + 1) := (List.getElem_cons_drop hlt).symm
    rw [hd, fT] at hf
    simp -implicitDefEqProofs (disch := omega) only [↓ZD,ZP,cnd_t,cnd_f,↓reduceIte,Env.put,stepO,lenV,binV,binInt,unV,loadV,sliceV,boundOf,convV,slstrV,if_pos,if_neg,Int.reduceToNat,Nat.reducePow,V.cells,V.isCell,V.boxable,Nat.reduceEqDiff,reduceCtorEq,reduceIte,ite_self,enterEnv,e0,e1,e7,e8,hat,hlt,hfl]
    refine calP_roc (by simp [roL, V.ro, h.roat hmem, h.capro]) (h.good _ hmem) rfl ?_
    cases hp : p T[j] with
    | true =>
      rw [hp, if_pos rfl] at hf
      rw [hf]
      simp -implicitDefEqProofs (disch := omega) only [↓ZD,ZP,cnd_t,cnd_f,↓reduceIte,Env.put,stepO,lenV,binV,binInt,unV,loadV,sliceV,boundOf,convV,slstrV,if_pos,if_neg,Int.reduceToNat,Nat.reducePow,V.cells,V.isCell,V.boxable,Nat.reduceEqDiff,reduceCtorEq,reduceIte,ite_self,enterEnv,e0,e1,e7,e8]
      exact gives_eq rfl rfl
    | false =>
      rw [hp, if_neg (by decide)] at hf
      simp -implicitDefEqProofs (disch := omega) only [↓ZD,ZP,cnd_t,cnd_f,↓reduceIte,Env.put,stepO,lenV,binV,binInt,unV,loadV,sliceV,boundOf,convV,slstrV,if_pos,if_neg,Int.reduceToNat,Nat.reducePow,V.cells,V.isCell,V.boxable,Nat.reduceEqDiff,reduceCtorEq,reduceIte,ite_self,enterEnv,e0,e1,e7,e8]
      exact ⟨_, by omega, j + 1, by omega, rfl, hf, by simp⟩
  · have hnl : ¬ j < T.length := by omega
    have hjl : j = T.length := by omega
    subst hjl
    rw [List.drop_length, fT] at hf
    rw [hf]
    simp -implicitDefEqProofs (disch := omega) only [↓ZD,ZP,cnd_t,cnd_f,↓reduceIte,Env.put,stepO,lenV,binV,binInt,unV,loadV,sliceV,boundOf,convV,slstrV,if_pos,if_neg,Int.reduceToNat,Nat.reducePow,V.cells,V.isCell,V.boxable,Nat.reduceEqDiff,reduceCtorEq,reduceIte,ite_self,enterEnv,e0,e1,e7,e8,hnl]
    exact gives_eq rfl rfl

theorem fT_cases (p : List V → Bool) : ∀ (T : List (List V)) (j : Nat), (fT p T j = -1 ∧ ∀ t ∈ T, p t = false) ∨ ∃ i : Nat, fT p T j = (j + i : Nat) ∧ i < T.length ∧ (∀ t ∈ T.take i, p t = false) ∧ (∀ h : i < T.length, p T[i] = true)
  | [], j => .inl ⟨rfl, fun t ht => by simp at ht⟩
  | t :: T, j => by
    rw [fT]
    cases hp : p t with
    | true => exact .inr ⟨0, by simp, by simp, fun t ht => by simp at ht, fun _ => hp⟩
    | false =>
      rw [if_neg (by decide)]
      rcases fT_cases p T (j + 1) with ⟨h1, h2⟩ | ⟨i, h1, h2, h3, h4⟩
      · refine .inl ⟨by simpa using h1, fun x hx => ?_⟩
        rcases List.mem_cons.1 hx with rfl | hx
        · exact hp
        · exact h2 x hx
      · refine .inr ⟨i + 1, by have : ((j : Nat) : Int) + 1 = ((j + 1 : Nat) : Int) := by omega
                               rw [this, h1]; omega, by simp; omega, fun x hx => ?_, fun h => by simpa using h4 (by simpa using h)⟩
        simp only [List.take_succ_cons,List.mem_cons] at hx
        rcases hx with rfl | hx
        · exact hp
        · exact h3 x hx

mutual
theorem bor_ro {H : Heap} : ∀ {v : V}, v.ro = true → bor H v = v
  | .rptr cs off, h => by simp only [bor]; rw [borL_ro (by simpa [V.ro] using h)]
  | .sl ex cs n, h => by simp only [bor]; rw [borL_ro (by simpa [V.ro] using h)]
  | .fn f a b, h => by
    simp only [V.ro,Bool.and_eq_true] at h
    simp only [bor]; rw [borL_ro h.1, borL_ro h.2]
  | .agg cs, h => by simp only [bor]; rw [borL_ro (by simpa [V.ro] using h)]
  | .tup cs, h => by simp only [bor]; rw [borL_ro (by simpa [V.ro] using h)]
  | .cell _ _ _, h => by simp [V.ro] at h
  | .view _ _ _ _, h => by simp [V.ro] at h
  | .osl _ _ _, h => by simp [V.ro] at h
  | .yld _, h => by simp [V.ro] at h
  | .mp _, h => by simp [V.ro] at h
  | .bool _, _ => rfl
  | .int _ _, _ => rfl
  | .str _, _ => rfl
  | .nilp, _ => rfl
  | .nilf, _ => rfl
  | .und, _ => rfl
  | .anyb, _ => rfl
  | .mnil, _ => rfl
theorem borL_ro {H : Heap} : ∀ {l : List V}, roL l = true → borL H l = l
  | [], _ => rfl
  | v :: l, h => by
    simp only [roL,Bool.and_eq_true] at h
    simp only [borL]
    rw [bor_ro h.1, borL_ro h.2]
end

set_option maxHeartbeats 2000000 in
theorem call430 (f : FuncId) (kc : List V) (p : List V → Bool) (T : List (List V)) (h : TestOf Go.Proofs.Tryz.prog f [.rptr kc 0] p T) (hl : T.length ≤ 100000) (H : Heap) (k cb : Nat) (hne : ¬ cb = k) (hk : H[k]? = some (.cells 0 5 true T.flatten)) (hc : H[cb]? = some (.cells 0 0 true kc))
    (K : V → Heap → Prop) (hK : ∀ H', K (.view k 0 0 (T.filter (fun t => !p t)).length) H') : Call2 Go.Proofs.Tryz.prog 30 [.view k 0 0 T.length, .fn f [] [.cell cb 0 0]] H K := by
  refine call2_go mix s430 (Nat.le_of_ble_eq_true rfl) fun e he => ?_
  have e0 : e 0 = .view k 0 0 T.length := he 0
  have e1 : e 1 = .fn f [] [.cell cb 0 0] := he 1
  clear he
  simp only [c430,b430, oQ]
  have hfl := flatC_len 5 T h.len
  have hkc : roL kc = true := by simpa [roL, V.ro] using h.capro
  simp -implicitDefEqProofs (disch := omega) only [↓ZD,ZP,cnd_t,cnd_f,↓reduceIte,Env.put,stepO,lenV,binV,binInt,unV,loadV,sliceV,boundOf,convV,slstrV,if_pos,if_neg,Int.reduceToNat,Nat.reducePow,V.cells,V.isCell,V.boxable,Nat.reduceEqDiff,reduceCtorEq,reduceIte,ite_self,enterEnv,e0,e1]
  refine calP_lendc 1 (as' := [.sl false T.flatten T.length, .fn f [] [.rptr kc 0]]) (H' := freezeL H (refsL [.view k 0 0 T.length, .fn f [] [.cell cb 0 0]])) ?_ (by simp [roL, V.ro, h.ro, hkc]) (good459 f [.rptr kc 0] p false T h hl) rfl rfl ?_
  · simp only [List.append_nil,lend,borL,bor,hk,hc,if_true,List.drop_zero]
    rw [← hfl, List.take_length]
  rcases fT_cases p T 0 with ⟨h1, h2⟩ | ⟨i0, h1, h2, h3, h4⟩
  · have hf : T.filter (fun t => !p t) = T := List.filter_eq_self.2 fun t ht => by simp [h2 t ht]
    rw [hf] at hK
    rw [show ((0 : Nat) : Int) = 0 from rfl] at h1
    rw [h1]
    simp -implicitDefEqProofs (disch := omega) only [↓ZD,ZP,cnd_t,cnd_f,↓reduceIte,Env.put,stepO,lenV,binV,binInt,unV,loadV,sliceV,boundOf,convV,slstrV,if_pos,if_neg,Int.reduceToNat,Nat.reducePow,V.cells,V.isCell,V.boxable,Nat.reduceEqDiff,reduceCtorEq,reduceIte,ite_self,enterEnv,e0,e1]
    exact hK _
  have hp0 := h4 h2
  rw [show ((0 : Nat) : Int) = 0 from rfl, Nat.zero_add] at h1
  rw [h1]
  have hb1 : (((i0 : Nat) : Int) == -1) = false := by simp
  simp -implicitDefEqProofs (disch := omega) only [↓ZD,ZP,cnd_t,cnd_f,↓reduceIte,Env.put,stepO,lenV,binV,binInt,unV,loadV,sliceV,boundOf,convV,slstrV,if_pos,if_neg,Int.reduceToNat,Nat.reducePow,V.cells,V.isCell,V.boxable,Nat.reduceEqDiff,reduceCtorEq,reduceIte,ite_self,enterEnv,e0,e1,hb1]
  refine go_loop (fun m e H => ∃ (i j : Nat) (cur : List (List V)), i < j ∧ j ≤ T.length ∧ m = T.length - j ∧ cur.length = T.length ∧ (∀ t ∈ cur, t.length = 5) ∧ cur.drop j = T.drop j ∧ i = ((T.take j).filter (fun t => !p t)).length ∧ H[k]? = some (.cells 0 5 true cur.flatten) ∧ H[cb]? = some (.cells 0 0 true kc) ∧ e 0 = .view k 0 0 T.length ∧ e 1 = .fn f [] [.cell cb 0 0] ∧ e 5 = .int .i64 (i : Nat) ∧ e 6 = .int .i64 (j : Nat)) (T.length - (i0 + 1))
    ⟨i0, i0 + 1, T, by omega, by omega, rfl, rfl, h.len, rfl, ?_, hk, hc, by simp [Env.set, e0], by simp [Env.set, e1], by simp [Env.set], by simp [Env.set]⟩ ?_
  · have htk : T.take (i0 + 1) = T.take i0 ++ [T[i0]] := by rw [List.take_add_one, List.getElem?_eq_getElem h2]; rfl
    have hfi : (T.take i0).filter (fun t => !p t) = T.take i0 := List.filter_eq_self.2 fun t ht => by simp [h3 t ht]
    rw [htk, List.filter_append, hfi, List.length_append, List.length_take]
    simp [hp0]
    omega
  clear e0 e1 hk hc
  rintro m e H ⟨i, j, cur, hij, hj, rfl, hcl, hc5, hdr, hi, hk, hc, e0, e1, e5, e6⟩
  have hcf := flatC_len 5 cur hc5
  rcases Nat.lt_or_ge j T.length with hlt | hge
  · have hcj : cur[j]'(by omega) = T[j] := by
      have := congrArg (fun l => l[0]?) hdr
      simpa [hlt, hcl] using this
    have hat := flatC_at hc5 (i := j) (by omega)
    rw [hcj] at hat
    have hmem : T[j] ∈ T := List.getElem_mem hlt
    have htl := h.len _ hmem
    have htc := h.cell _ hmem
    have htr := h.roat hmem
    have hgd := h.good _ hmem
    have htake : T.take (j + 1) = T.take j ++ [T[j]] := (by rw [List.take_add_one, List.getElem?_eq_getElem hlt]; rfl)
    generalize T[j] = t at *
    have ht5 : t.take 5 = t := by rw [← htl, List.take_length]
    have hkl := getElem?_lt hk
    have hcl' := getElem?_lt hc
    simp -implicitDefEqProofs (disch := (first | omega | (simp only [List.length_append,List.length_set,List.length_cons,List.length_nil]; try omega; done))) only [↓ZD,ZP,ZL,cnd_t,cnd_f,↓reduceIte,Env.put,stepO,lenV,binV,binInt,unV,loadV,sliceV,boundOf,convV,slstrV,if_pos,if_neg,Int.reduceToNat,Nat.reducePow,V.cells,V.isCell,V.boxable,Nat.reduceEqDiff,reduceCtorEq,reduceIte,ite_self,enterEnv,e0,e1,e5,e6,hlt,hk,hat,hcf,hcl,fillL,evParts,splice,List.take_zero,List.take_succ_cons,List.drop_succ_cons,List.drop_zero,List.drop_nil,htl,htc,ht5,hkl,List.append_nil]
    have hgetc : (H ++ [HObj.cells 0 0 true t])[cb]? = some (.cells 0 0 true kc) := by rw [List.getElem?_append_left hcl']; exact hc
    refine calP_lendc 1 (as' := [.agg t, .rptr kc 0]) (H' := freezeL (H ++ [HObj.cells 0 0 true t]) (refsL [.agg t, .cell cb 0 0])) ?_ (by simp [roL, V.ro, htr, hkc]) hgd rfl rfl ?_
    · simp only [List.cons_append,List.nil_append,lend,borL,bor,borL_ro htr,hgetc,if_true]
    cases hp : p t with
    | true =>
      simp -implicitDefEqProofs (disch := (first | omega | (simp only [List.length_append,List.length_set,List.length_cons,List.length_nil]; try omega; done))) only [↓ZD,ZP,ZL,cnd_t,cnd_f,↓reduceIte,Env.put,stepO,lenV,binV,binInt,unV,loadV,sliceV,boundOf,convV,slstrV,if_pos,if_neg,Int.reduceToNat,Nat.reducePow,V.cells,V.isCell,V.boxable,Nat.reduceEqDiff,reduceCtorEq,reduceIte,ite_self,enterEnv,e0,e1,e5,e6]
      refine ⟨_, ?_, i, j + 1, cur, by omega, by omega, rfl, hcl, hc5, ?_, ?_, by simp -implicitDefEqProofs (disch := (first | omega | (simp only [List.length_append,List.length_set,List.length_cons,List.length_nil]; try omega; done))) only [get_push_at,get_push_eq,set_push,get_push,get_set_ne,get_set_self,len_push,len_set,hk], by simp -implicitDefEqProofs (disch := (first | omega | (simp only [List.length_append,List.length_set,List.length_cons,List.length_nil]; try omega; done))) only [get_push_at,get_push_eq,set_push,get_push,get_set_ne,get_set_self,len_push,len_set,hc], ?_⟩
      · omega
      · rw [← List.drop_drop, hdr, List.drop_drop]
      · rw [htake, List.filter_append, List.length_append, ← hi]; simp [hp]
      · simp
    | false =>
      have hset := flatC_set hc5 (i := i) (t := t) (by omega) htl
      have hin : i < T.length := by omega
      simp -implicitDefEqProofs (disch := (first | omega | (simp only [List.length_append,List.length_set,List.length_cons,List.length_nil]; try omega; done))) only [↓ZD,ZP,ZL,cnd_t,cnd_f,↓reduceIte,Env.put,stepO,lenV,binV,binInt,unV,loadV,sliceV,boundOf,convV,slstrV,if_pos,if_neg,Int.reduceToNat,Nat.reducePow,V.cells,V.isCell,V.boxable,Nat.reduceEqDiff,reduceCtorEq,reduceIte,ite_self,enterEnv,e0,e1,e5,e6,hk,hcf,hcl,htl,htc,ht5,hkl,List.append_nil,hin,List.drop_zero]
      rw [hset]
      refine ⟨_, ?_, i + 1, j + 1, cur.set i t, by omega, by omega, rfl, by simpa using hcl, ?_, ?_, ?_, rfl, hc, by simp⟩
      · omega
      · intro x hx
        rcases List.mem_or_eq_of_mem_set hx with h1 | h1
        · exact hc5 x h1
        · rw [h1]; exact htl
      · rw [List.drop_set_of_lt (by omega), ← List.drop_drop, hdr, List.drop_drop]
      · rw [htake, List.filter_append, List.length_append, ← hi]; simp [hp]
  · have hjT : j = T.length := by omega
    subst hjT
    have hnl : ¬ T.length < T.length := by omega
    have hin : i < T.length := hij
    have hkl := getElem?_lt hk
    have hgen : genOf H k = 0 := by simp [genOf, hk, HObj.gen]
    have hesz : eszOf H k = 5 := by simp [eszOf, hk, HObj.esz]
    rw [List.take_length] at hi
    rw [← hi] at hK
    have hg2 : ∀ X, genOf (H.set k (.cells 0 5 true X)) k = 0 := fun X => by simp [genOf, hkl, HObj.gen]
    have he2 : ∀ X, eszOf (H.set k (.cells 0 5 true X)) k = 5 := fun X => by simp [eszOf, hkl, HObj.esz]
    have hi0 : (((i : Nat) : Int) - ((0 : Nat) : Int)).toNat = i := by omega
    simp -implicitDefEqProofs (disch := (first | omega | (simp only [List.length_append,List.length_set,List.length_cons,List.length_nil]; try omega; done))) only [↓ZD,ZP,ZL,cnd_t,cnd_f,↓reduceIte,Env.put,stepO,lenV,binV,binInt,unV,loadV,sliceV,boundOf,convV,slstrV,if_pos,if_neg,Int.reduceToNat,Nat.reducePow,V.cells,V.isCell,V.boxable,Nat.reduceEqDiff,reduceCtorEq,reduceIte,ite_self,enterEnv,e0,e1,e5,e6,hk,hnl,hin,hkl,hgen,hesz,hg2,he2,hi0,Nat.zero_mul]
    exact hK _

theorem good430e (f : FuncId) (cap : List V) (hcap : roL cap = true) (ex : Bool) : Good Go.Proofs.Tryz.prog 30 [.sl ex [] 0, .fn f [] cap] (.sl false [] 0) := by
  have hT : TestOf Go.Proofs.Tryz.prog f cap (fun _ => false) [] := ⟨fun t ht => by simp at ht, rfl, fun t ht => by simp at ht, hcap, fun t ht => by simp at ht⟩
  have hg : Good Go.Proofs.Tryz.prog 59 [.sl ex [] 0, .fn f [] cap] (.int .i64 (-1)) := good459 f cap _ ex [] hT (by simp)
  refine good_go mix s430 (Nat.le_of_ble_eq_true rfl) fun e he => ?_
  have e0 : e 0 = .sl ex [] 0 := he 0
  have e1 : e 1 = .fn f [] cap := he 1
  clear he
  simp only [c430,b430, oQ]
  simp -implicitDefEqProofs (disch := omega) only [↓ZD,ZP,cnd_t,cnd_f,↓reduceIte,Env.put,stepO,lenV,binV,binInt,unV,loadV,sliceV,boundOf,convV,slstrV,if_pos,if_neg,Int.reduceToNat,Nat.reducePow,V.cells,V.isCell,V.boxable,Nat.reduceEqDiff,reduceCtorEq,reduceIte,ite_self,enterEnv,e0,e1]
  refine calP_ro (by simp [roL, V.ro, hcap]) hg rfl ?_
  simp -implicitDefEqProofs (disch := omega) only [↓ZD,ZP,cnd_t,cnd_f,↓reduceIte,Env.put,stepO,lenV,binV,binInt,unV,loadV,sliceV,boundOf,convV,slstrV,if_pos,if_neg,Int.reduceToNat,Nat.reducePow,V.cells,V.isCell,V.boxable,Nat.reduceEqDiff,reduceCtorEq,reduceIte,ite_self,enterEnv,e0,e1]
  exact gives_eq rfl rfl
end Fe
open Go Go.Proofs
open Go.RowKit
namespace Fe
def b416 : C :=
 (.seq
 (.region false [
 oQ 3 (.box (.t 1)),
 oQ 4 (.mov (.c (.int .i64 0)))])
 (.seq
 (.region false [
 oQ 9 (.mov (.t 0)),
 ⟨some 10, .call false (.c (.fn 7 [] [])) [.t 9], none⟩,
 oQ 8 (.mov (.t 10)),
 oQ 11 (.extract (.t 8) 0),
 oQ 12 (.extract (.t 8) 1),
 oQ 13 (.extract (.t 8) 2),
 oQ 5 (.mov (.t 11)),
 oQ 6 (.mov (.t 12)),
 oQ 7 (.mov (.t 13))])
 (.seq
 (.region false [
 oQ 14 (.mov (.t 5)),
 oQ 15 (.len false (.t 14)),
 oQ 16 (.mov (.t 5)),
 oQ 17 (.mkfn 31 [] [.t 3]),
 ⟨some 18, .call false (.c (.fn 30 [] [])) [.t 16, .t 17], none⟩,
 oQ 19 (.len false (.t 18)),
 oQ 20 (.bin 0 .sub (.t 15) (.t 19)),
 oQ 4 (.mov (.t 20))])
 .ret)))
def c416 : CF := ⟨21, 2, [.mov (.t 4)], b416⟩
def b417 : C :=
 (.seq
 (.region false [
 oQ 4 (.mov (.c (.int .i64 0)))])
 (.seq
 (.region false [
 oQ 12 (.mov (.t 0)),
 ⟨some 13, .call false (.c (.fn 8 [] [])) [.t 12], none⟩,
 oQ 11 (.mov (.t 13)),
 oQ 14 (.extract (.t 11) 0),
 oQ 15 (.extract (.t 11) 1),
 oQ 16 (.extract (.t 11) 2),
 oQ 5 (.mov (.t 14)),
 oQ 6 (.mov (.t 15)),
 oQ 7 (.mov (.t 16))])
 (.seq
 (.region false [
 oQ 8 (.mov (.c (.int .i64 0)))])
 (.seq
 (.seq
 (.region false [
 oQ 9 (.mov (.c (.int .i64 0)))])
 (.block 0
 (.loop
 (.seq
 (.seq
 (.region false [
 oQ 17 (.mov (.t 9)),
 oQ 18 (.mov (.t 5)),
 oQ 19 (.len false (.t 18)),
 oQ 20 (.bin 0 .lss (.t 17) (.t 19))])
 (.cond (.t 20)
 .skip
 (.exit 0)))
 (.seq
 (.block 1
 (.seq
 (.region false [
 oQ 10 (.mov (.c (.int .i64 0)))])
 (.block 2
 (.loop
 (.seq
 (.seq
 (.region false [
 oQ 23 (.mov (.t 10)),
 oQ 24 (.mov (.t 1)),
 oQ 25 (.len false (.t 24)),
 oQ 26 (.bin 0 .lss (.t 23) (.t 25))])
 (.cond (.t 26)
 .skip
 (.exit 2)))
 (.seq
 (.block 3
 (.seq
 (.region true [
 oQ 29 (.mov (.t 5)),
 oQ 30 (.mov (.t 9)),
 oQ 31 (.iaddr 5 (.t 29) (.t 30)),
 oQ 32 (.faddr 0 (.t 31)),
 oQ 33 (.load false 1 (.t 32)),
 oQ 34 (.mov (.t 1)),
 oQ 35 (.mov (.t 10)),
 oQ 36 (.iaddr 1 (.t 34) (.t 35)),
 oQ 37 (.load false 1 (.t 36)),
 oQ 38 (.bin 0 .eql (.t 33) (.t 37))])
 (.cond (.t 38)
 (.seq
 (.region false [
 oQ 39 (.mov (.t 8)),
 oQ 40 (.bin 0 .add (.t 39) (.c (.int .i64 1))),
 oQ 8 (.mov (.t 40))])
 (.exit 2))
 .skip)))
 (.region false [
 oQ 27 (.mov (.t 10)),
 oQ 28 (.bin 0 .add (.t 27) (.c (.int .i64 1))),
 oQ 10 (.mov (.t 28))])))))))
 (.region false [
 oQ 21 (.mov (.t 9)),
 oQ 22 (.bin 0 .add (.t 21) (.c (.int .i64 1))),
 oQ 9 (.mov (.t 22))]))))))
 (.seq
 (.region false [
 oQ 41 (.mov (.t 8)),
 oQ 4 (.mov (.t 41))])
 .ret)))))
def c417 : CF := ⟨42, 2, [.mov (.t 4)], b417⟩
def b406 : C :=
 (.seq
 (.region false [
 oQ 4 (.mov (.c (.bool false)))])
 (.seq
 (.region false [
 oQ 5 (.mov (.c (.sl true [] 0)))])
 (.seq
 (.seq
 (.region false [
 oQ 6 (.mov (.c (.int .i64 0)))])
 (.block 0
 (.loop
 (.seq
 (.seq
 (.region false [
 oQ 7 (.mov (.t 6)),
 oQ 8 (.mov (.t 1)),
 oQ 9 (.len false (.t 8)),
 oQ 10 (.bin 0 .lss (.t 7) (.t 9))])
 (.cond (.t 10)
 .skip
 (.exit 0)))
 (.seq
 (.block 1
 (.region false [
 oQ 13 (.mov (.t 5)),
 oQ 14 (.mov (.t 1)),
 oQ 15 (.mov (.t 6)),
 oQ 16 (.iaddr 1 (.t 14) (.t 15)),
 oQ 17 (.load false 1 (.t 16)),
 oQ 18 (.conv (.int .i64) (.t 17)),
 oQ 19 (.mkslh 1 [.int .i64 0] 1 [(0, (1, .t 18))]),
 oQ 20 (.append 1 8 (.t 13) (.t 19)),
 oQ 5 (.mov (.t 20))]))
 (.region false [
 oQ 11 (.mov (.t 6)),
 oQ 12 (.bin 0 .add (.t 11) (.c (.int .i64 1))),
 oQ 6 (.mov (.t 12))]))))))
 (.seq
 (.region false [
 ⟨some 21, .call false (.c (.fn 9 [] [])) [], none⟩,
 oQ 22 (.mov (.t 21)),
 ⟨some 23, .op (.mov (.t 0)), some (22, true)⟩,
 ⟨some 24, .op (.mov (.t 1)), some (22, true)⟩,
 ⟨some 25, .call false (.c (.fn 16 [] [])) [.t 23, .t 24], some (22, true)⟩,
 ⟨some 26, .op (.mov (.t 0)), some (22, true)⟩,
 ⟨some 27, .op (.mov (.t 5)), some (22, true)⟩,
 ⟨some 28, .call false (.c (.fn 17 [] [])) [.t 26, .t 27], some (22, true)⟩,
 ⟨some 29, .op (.bin 0 .eql (.t 25) (.t 28)), some (22, true)⟩,
 oQ 30 (.pick (.t 22) (.t 29) (.c (.bool false))),
 oQ 31 (.mov (.t 30)),
 ⟨some 32, .op (.mov (.t 0)), some (31, true)⟩,
 ⟨some 33, .call false (.c (.fn 12 [] [])) [.t 32], some (31, true)⟩,
 ⟨some 34, .op (.mov (.t 0)), some (31, true)⟩,
 ⟨some 35, .call false (.c (.fn 18 [] [])) [.t 34], some (31, true)⟩,
 ⟨some 36, .op (.bin 0 .eql (.t 33) (.t 35)), some (31, true)⟩,
 oQ 37 (.pick (.t 31) (.t 36) (.c (.bool false))),
 oQ 4 (.mov (.t 37))])
 .ret))))
def c406 : CF := ⟨38, 2, [.mov (.t 4)], b406⟩
theorem s416 : stripF Go.Proofs.Tryz.prog 16 = some c416 := by kernel_rfl
theorem s417 : stripF Go.Proofs.Tryz.prog 17 = some c417 := by kernel_rfl
theorem s406 : stripF Go.Proofs.Tryz.prog 6 = some c406 := by kernel_rfl

/-- What lex.All gives, its tokens its own. -/
def allO (s : List UInt8) : V :=
  if 1024 < s.length then .tup [.sl false [] 0, .int .i64 25, .int .i64 0]
  else match bad s with
    | some i => .tup [.sl false [] 0, .int .i64 26, .int .i64 (i : Nat)]
    | none => match lexL ((rn s).length + 1) 0 (rn s) with
      | .error (e, j) => .tup [.sl false [] 0, .int .i64 (e : Nat), .int .i64 (j : Nat)]
      | .ok ts => if ts = [] then .tup [.sl false [] 0, .int .i64 0, .int .i64 0] else .tup [.osl 5 ts.flatten ts.length, .int .i64 0, .int .i64 0]

theorem good5o (s : List UInt8) : Good Go.Proofs.Tryz.prog 7 [.str s] (allO s) := by
  refine good_go mix s5 (Nat.le_of_ble_eq_true rfl) fun e he => ?_
  have e0 : e 0 = .str s := he 0
  clear he
  simp only [c5,b5, oQ]
  rw [allO]
  by_cases hlong : 1024 < s.length
  · rw [if_pos hlong]
    simp -implicitDefEqProofs (disch := omega) only [↓ZD,ZP,cnd_t,cnd_f,↓reduceIte,Env.put,stepO,lenV,binV,binInt,unV,loadV,sliceV,boundOf,convV,slstrV,if_pos,if_neg,Int.reduceToNat,Nat.reducePow,V.cells,V.isCell,V.boxable,Nat.reduceEqDiff,reduceCtorEq,reduceIte,ite_self,enterEnv,e0,fillL,evParts,splice,List.take_zero,List.take_succ_cons,List.drop_succ_cons,List.drop_zero,List.drop_nil]
    exact gives_eq rfl rfl
  rw [if_neg hlong]
  have hs : s.length ≤ 1100000 := by omega
  have hrl := rn_len s
  have h13 := good13 s hs
  rw [runesR] at h13
  simp -implicitDefEqProofs (disch := omega) only [↓ZD,ZP,cnd_t,cnd_f,↓reduceIte,Env.put,stepO,lenV,binV,binInt,unV,loadV,sliceV,boundOf,convV,slstrV,if_pos,if_neg,Int.reduceToNat,Nat.reducePow,V.cells,V.isCell,V.boxable,Nat.reduceEqDiff,reduceCtorEq,reduceIte,ite_self,enterEnv,e0,fillL,evParts,splice,List.take_zero,List.take_succ_cons,List.drop_succ_cons,List.drop_zero,List.drop_nil]
  cases hb : bad s with
  | some i =>
    rw [hb] at h13
    simp only [rsl,rl,List.map_nil] at h13
    refine calP_ro rfl h13 rfl ?_
    simp -implicitDefEqProofs (disch := omega) only [↓ZD,ZP,cnd_t,cnd_f,↓reduceIte,Env.put,stepO,lenV,binV,binInt,unV,loadV,sliceV,boundOf,convV,slstrV,if_pos,if_neg,Int.reduceToNat,Nat.reducePow,V.cells,V.isCell,V.boxable,Nat.reduceEqDiff,reduceCtorEq,reduceIte,ite_self,enterEnv,e0,fillL,evParts,splice,List.take_zero,List.take_succ_cons,List.drop_succ_cons,List.drop_zero,List.drop_nil]
    exact gives_eq rfl rfl
  | none =>
    rw [hb] at h13
    simp only at h13
    refine calP_ro rfl h13 (by simp [V.ro, roL, rsl, rl_ro]) ?_
    simp -implicitDefEqProofs (disch := omega) only [↓ZD,ZP,cnd_t,cnd_f,↓reduceIte,Env.put,stepO,lenV,binV,binInt,unV,loadV,sliceV,boundOf,convV,slstrV,if_pos,if_neg,Int.reduceToNat,Nat.reducePow,V.cells,V.isCell,V.boxable,Nat.reduceEqDiff,reduceCtorEq,reduceIte,ite_self,enterEnv,e0,fillL,evParts,splice,List.take_zero,List.take_succ_cons,List.drop_succ_cons,List.drop_zero,List.drop_nil,rsl]
    have h14 := good14 (rn s)
    refine calP_ro (by simp [V.ro, roL, rl_ro]) h14 (by simp [V.ro, roL, rsl, rl_ro]) ?_
    simp -implicitDefEqProofs (disch := omega) only [↓ZD,ZP,cnd_t,cnd_f,↓reduceIte,Env.put,stepO,lenV,binV,binInt,unV,loadV,sliceV,boundOf,convV,slstrV,if_pos,if_neg,Int.reduceToNat,Nat.reducePow,V.cells,V.isCell,V.boxable,Nat.reduceEqDiff,reduceCtorEq,reduceIte,ite_self,enterEnv,e0,fillL,evParts,splice,List.take_zero,List.take_succ_cons,List.drop_succ_cons,List.drop_zero,List.drop_nil,Nat.reduceAdd]
    refine rng_env fun e' he' => ?_
    have f2 : e' 2 = .cell 0 0 0 := by rw [he']; simp [Env.set]
    have f3 : e' 3 = .cell 1 0 0 := by rw [he']; simp [Env.set]
    have f4 : e' 4 = .cell 2 0 0 := by rw [he']; simp [Env.set]
    have f8 : e' 8 = .cell 3 0 0 := by rw [he']; simp [Env.set]
    clear he'
    refine rng_heap (call27 (rn s) 4 _ _ (AJ (Strp Go.Proofs.Tryz.prog r5_0 r5_1) e') (AE (Strp Go.Proofs.Tryz.prog r5_0 r5_1) e') (by omega) (rn_ok _ _) ?_ ?_ ?_ ?_ ?_ ?_)
    · exact ⟨by simp, ⟨_, rfl⟩, ⟨_, rfl⟩, ⟨_, rfl⟩, ⟨_, rfl, .inl ⟨rfl, rfl⟩⟩, rfl, (fun t ht => by simp at ht), rfl, by simp⟩
    · intro ts H x T hJ
      exact aj_set hJ
    · intro ts H i kind text j x1 l1 n1 x2 l2 n2 hr1 hr2 hlen hJ hit
      refine yld_mono (aj_round f2 f3 f4 f8 hJ hr1 hr2 (by omega)) ?_
      rintro r H' ⟨h1, h2, h3⟩
      exact ⟨h1, h2, h3.trans hit⟩
    · intro ts H er j hne hJ
      exact aj_err hne f2 f3 f4 hJ
    · intro ts H hlex hJ
      rw [hlex]
      obtain ⟨h1, ⟨y0, g0⟩, ⟨y1, g1⟩, ⟨y2, g2⟩, ⟨v, h3, h4⟩, h6, h7, h8, h9⟩ := hJ
      refine after_n h6 (by decide) ?_
      generalize Strp Go.Proofs.Tryz.prog r5_0 r5_1 = S at *
      rcases h4 with ⟨rfl, rfl⟩ | ⟨b, g, rfl, hb, h4⟩
      · simp -implicitDefEqProofs (disch := (first | omega | (simp only [List.length_append,List.length_set,List.length_cons,List.length_nil]; try omega; done))) only [↓ZD,ZP,ZL,cnd_t,cnd_f,↓reduceIte,Env.put,stepO,lenV,binV,binInt,unV,loadV,sliceV,boundOf,convV,slstrV,if_pos,if_neg,Int.reduceToNat,Nat.reducePow,V.cells,V.isCell,V.boxable,Nat.reduceEqDiff,reduceCtorEq,reduceIte,ite_self,enterEnv,f2,f3,f4,f8,g0,g1,g2,h3,fillL,evParts,splice,List.take_zero,List.take_succ_cons,List.drop_succ_cons,List.drop_zero,List.drop_nil]
        exact gives_eq rfl rfl
      · have hbl := getElem?_lt h4
        have hfl := flat_len ts h7
        by_cases hne : ts = []
        · subst hne
          simp -implicitDefEqProofs (disch := (first | omega | (simp only [List.length_append,List.length_set,List.length_cons,List.length_nil]; try omega; done))) only [↓ZD,ZP,ZL,cnd_t,cnd_f,↓reduceIte,Env.put,stepO,lenV,binV,binInt,unV,loadV,sliceV,boundOf,convV,slstrV,if_pos,if_neg,Int.reduceToNat,Nat.reducePow,V.cells,V.isCell,V.boxable,Nat.reduceEqDiff,reduceCtorEq,reduceIte,ite_self,enterEnv,f2,f3,f4,f8,g0,g1,g2,h3,fillL,evParts,splice,List.take_zero,List.take_succ_cons,List.drop_succ_cons,List.drop_zero,List.drop_nil]
          refine gives_lend 1 (v' := .tup [.sl false [] 0, .int .i64 0, .int .i64 0]) ?_ rfl rfl
          simp only [lend1,borL,bor]
          simp -implicitDefEqProofs (disch := (first | omega | (simp only [List.length_append,List.length_set,List.length_cons,List.length_nil]; try omega; done))) only [get_push_at,get_push_eq,set_push,get_push,get_set_ne,get_set_self,len_push,len_set,h4,if_true,List.drop_zero,Nat.zero_mul,List.take_zero,List.length_nil]
        · simp only [if_neg hne]
          simp -implicitDefEqProofs (disch := (first | omega | (simp only [List.length_append,List.length_set,List.length_cons,List.length_nil]; try omega; done))) only [↓ZD,ZP,ZL,cnd_t,cnd_f,↓reduceIte,Env.put,stepO,lenV,binV,binInt,unV,loadV,sliceV,boundOf,convV,slstrV,if_pos,if_neg,Int.reduceToNat,Nat.reducePow,V.cells,V.isCell,V.boxable,Nat.reduceEqDiff,reduceCtorEq,reduceIte,ite_self,enterEnv,f2,f3,f4,f8,g0,g1,g2,h3,fillL,evParts,splice,List.take_zero,List.take_succ_cons,List.drop_succ_cons,List.drop_zero,List.drop_nil]
          exact gives_own_tup 0 (g := g) (cs' := ts.flatten) rfl (by simp -implicitDefEqProofs (disch := (first | omega | (simp only [List.length_append,List.length_set,List.length_cons,List.length_nil]; try omega; done))) only [get_push_at,get_push_eq,set_push,get_push,get_set_ne,get_set_self,len_push,len_set,h4]) h8 (by simp only [lend]; simp -implicitDefEqProofs (disch := (first | omega | (simp only [List.length_append,List.length_set,List.length_cons,List.length_nil]; try omega; done))) only [get_push_at,get_push_eq,set_push,get_push,get_set_ne,get_set_self,len_push,len_set,h4]) rfl
    · intro er j H hlex hJ
      rw [hlex]
      obtain ⟨g0, g1, g2, h6⟩ := hJ
      have hl := getElem?_lt h6
      refine after_r h6 (by decide) ?_
      generalize Strp Go.Proofs.Tryz.prog r5_0 r5_1 = S at *
      simp -implicitDefEqProofs (disch := (first | omega | (simp only [List.length_append,List.length_set,List.length_cons,List.length_nil]; try omega; done))) only [↓ZD,ZP,ZL,cnd_t,cnd_f,↓reduceIte,Env.put,stepO,lenV,binV,binInt,unV,loadV,sliceV,boundOf,convV,slstrV,if_pos,if_neg,Int.reduceToNat,Nat.reducePow,V.cells,V.isCell,V.boxable,Nat.reduceEqDiff,reduceCtorEq,reduceIte,ite_self,enterEnv,f2,f3,f4,f8,g0,g1,g2,fillL,evParts,splice,List.take_zero,List.take_succ_cons,List.drop_succ_cons,List.drop_zero,List.drop_nil]
      exact gives_eq rfl rfl
theorem good5o_of {s : List UInt8} {er j : Nat} (hne : er ≠ 0) (h : allR s = .tup [.sl false [] 0, .int .i64 (er : Nat), .int .i64 (j : Nat)]) : Good Go.Proofs.Tryz.prog 7 [.str s] (.tup [.sl false [] 0, .int .i64 (er : Nat), .int .i64 (j : Nat)]) := by
  have := good5 s
  rwa [h] at this
theorem good5o_ok {s : List UInt8} {T : List (List V)} (hn : T ≠ []) (hl : s.length ≤ 1024) (hb : bad s = none) (h : lexL ((rn s).length + 1) 0 (rn s) = .ok T) : Good Go.Proofs.Tryz.prog 7 [.str s] (.tup [.osl 5 T.flatten T.length, .int .i64 0, .int .i64 0]) := by
  have := good5o s
  rw [allO, if_neg (by omega), hb] at this
  simp only [h,if_neg hn] at this
  exact this

/-- How many tokens of some kinds. -/
def cntT (ks : List Int) (ts : List Tk) : Nat := (ts.filter fun t => decide ((t.kind : Int) ∈ ks)).length

def kindIn (ks : List Int) : List V → Bool
  | .int .u8 k :: _ => decide (k ∈ ks)
  | _ => false

theorem test_of (ex : Bool) (ks : List Int) (hk : ks.length ≤ 4611686018427387904) (ts : List Tk) (hok : ∀ t ∈ ts, t.OK) : TestOf Go.Proofs.Tryz.prog 31 [.rptr [.sl ex (kI ks) ks.length] 0] (kindIn ks) (ts.map Tk.L) := by
  have hro := (ok_ro ts hok).1
  have hr : ∀ t ∈ ts, roL t.L = true := fun t ht => roL_of fun v hv => roL_mem hro v (List.mem_flatten.2 ⟨t.L, List.mem_map_of_mem ht, hv⟩)
  have hcell : ∀ t ∈ ts, t.L.all V.isCell = true := fun t ht => by
    obtain ⟨_, ea, eb, _, _, sh, prs, _, _, _, h1, _⟩ := hok t ht
    rw [arrA] at h1
    injection h1 with h1
    injection h1 with h1 h2
    injection h2 with h2 _
    simp only [Tk.L,tokC,h1,h2]
    rfl
  refine ⟨fun x hx => ?_, hro, fun x hx => ?_, by simp [roL, V.ro, kI_ro], fun x hx => ?_⟩
  · obtain ⟨t, _, rfl⟩ := List.mem_map.1 hx; rfl
  · obtain ⟨t, ht, rfl⟩ := List.mem_map.1 hx; exact hcell t ht
  · obtain ⟨t, ht, rfl⟩ := List.mem_map.1 hx
    have h1 := hr t ht
    have h2 := hcell t ht
    exact good431 t.L t.kind _ rfl rfl (by simp only [Tk.L,tokC,roL,Bool.and_eq_true] at h1 ⊢; exact h1.2) (by simp only [Tk.L,tokC,List.all_cons,Bool.and_eq_true] at h2 ⊢; exact h2.2) ex ks hk

theorem len_split {α : Type} : ∀ (l : List α) (p : α → Bool), (l.filter p).length + (l.filter fun x => !p x).length = l.length
  | [], p => rfl
  | x :: l, p => by
    have := len_split l p
    cases hp : p x <;> simp [hp] <;> omega
theorem lexP_ne (n i : Nat) (l : List Nat) : lexP (n + 1) i l ≠ .ok [] := by
  rw [lexP]
  split
  · simp
  · split
    · simp
    · split
      · simp
      · split <;> simp
theorem good416 (s : List UInt8) (ex : Bool) (ks : List Int) (hk : ks.length ≤ 4611686018427387904) : (∃ er j : Nat, er ≠ 0 ∧ allQ s = .tup [.sl false [] 0, .int .i64 (er : Nat), .int .i64 (j : Nat)] ∧ Good Go.Proofs.Tryz.prog 16 [.str s, .sl ex (kI ks) ks.length] (.int .i64 0)) ∨
    ∃ ts : List Tk, (∀ t ∈ ts, t.OK) ∧ ts.length ≤ 1025 ∧ allQ s = .tup [.sl false (ts.map Tk.R).flatten ts.length, .int .i64 0, .int .i64 0] ∧ Good Go.Proofs.Tryz.prog 16 [.str s, .sl ex (kI ks) ks.length] (.int .i64 (cntT ks ts)) := by
  rcases both_cases s with ⟨er, j, hne, hR, hQ⟩ | ⟨ts, hl, hb, hlex, hok, hn, hR, hQ⟩
  · refine .inl ⟨er, j, hne, hQ, ?_⟩
    have h5 := good5o_of hne hR
    refine good_go mix s416 (Nat.le_of_ble_eq_true rfl) fun e he => ?_
    have e0 : e 0 = .str s := he 0
    have e1 : e 1 = .sl ex (kI ks) ks.length := he 1
    clear he
    simp only [c416,b416, oQ]
    have ht := test_of ex ks hk [] (fun t ht => by simp at ht)
    have hd := good430e 31 [.rptr [.sl ex (kI ks) ks.length] 0] (by simp [roL, V.ro, kI_ro]) false
    simp -implicitDefEqProofs (disch := omega) only [↓ZD,ZP,cnd_t,cnd_f,↓reduceIte,Env.put,stepO,lenV,binV,binInt,unV,loadV,sliceV,boundOf,convV,slstrV,if_pos,if_neg,Int.reduceToNat,Nat.reducePow,V.cells,V.isCell,V.boxable,Nat.reduceEqDiff,reduceCtorEq,reduceIte,ite_self,enterEnv,e0,e1]
    refine calP_ro rfl h5 rfl ?_
    simp -implicitDefEqProofs (disch := omega) only [↓ZD,ZP,cnd_t,cnd_f,↓reduceIte,Env.put,stepO,lenV,binV,binInt,unV,loadV,sliceV,boundOf,convV,slstrV,if_pos,if_neg,Int.reduceToNat,Nat.reducePow,V.cells,V.isCell,V.boxable,Nat.reduceEqDiff,reduceCtorEq,reduceIte,ite_self,enterEnv,e0,e1]
    refine calP_lendc 1 (as' := [.sl false [] 0, .fn 31 [] [.rptr [.sl ex (kI ks) ks.length] 0]]) (H' := freezeL [.cells 0 0 true [.sl ex (kI ks) ks.length]] (refsL [.sl false [] 0, .fn 31 [] [.cell 0 0 0]])) ?_ (by simp [roL, V.ro, kI_ro]) hd rfl rfl ?_
    · rfl
    simp -implicitDefEqProofs (disch := omega) only [↓ZD,ZP,cnd_t,cnd_f,↓reduceIte,Env.put,stepO,lenV,binV,binInt,unV,loadV,sliceV,boundOf,convV,slstrV,if_pos,if_neg,Int.reduceToNat,Nat.reducePow,V.cells,V.isCell,V.boxable,Nat.reduceEqDiff,reduceCtorEq,reduceIte,ite_self,enterEnv,e0,e1]
    exact gives_eq rfl rfl
  · refine .inr ⟨ts, hok, hn, hQ, ?_⟩
    have hne : ts ≠ [] := by
      rintro rfl
      exact lexP_ne _ _ _ hlex
    have h5 : Good Go.Proofs.Tryz.prog 7 [.str s] (.tup [.osl 5 (ts.map Tk.L).flatten (ts.map Tk.L).length, .int .i64 0, .int .i64 0]) := good5o_ok (by simpa using hne) hl hb (by rw [lexL_P, hlex])
    refine good_go mix s416 (Nat.le_of_ble_eq_true rfl) fun e he => ?_
    have e0 : e 0 = .str s := he 0
    have e1 : e 1 = .sl ex (kI ks) ks.length := he 1
    clear he
    simp only [c416,b416, oQ]
    have ht := test_of ex ks hk ts hok
    simp -implicitDefEqProofs (disch := omega) only [↓ZD,ZP,cnd_t,cnd_f,↓reduceIte,Env.put,stepO,lenV,binV,binInt,unV,loadV,sliceV,boundOf,convV,slstrV,if_pos,if_neg,Int.reduceToNat,Nat.reducePow,V.cells,V.isCell,V.boxable,Nat.reduceEqDiff,reduceCtorEq,reduceIte,ite_self,enterEnv,e0,e1]
    refine calP_lend 0 lend0 rfl h5 ?_
    simp only [ite_self,adopt,adoptL,adopt1,List.length_cons,List.length_nil,Nat.zero_add,List.cons_append,List.nil_append]
    simp -implicitDefEqProofs (disch := omega) only [↓ZD,ZP,cnd_t,cnd_f,↓reduceIte,Env.put,stepO,lenV,binV,binInt,unV,loadV,sliceV,boundOf,convV,slstrV,if_pos,if_neg,Int.reduceToNat,Nat.reducePow,V.cells,V.isCell,V.boxable,Nat.reduceEqDiff,reduceCtorEq,reduceIte,ite_self,enterEnv,e0,e1]
    have hcall := fun K hK => call430 31 [.sl ex (kI ks) ks.length] (kindIn ks) (ts.map Tk.L) ht (by simpa using (show ts.length ≤ 100000 by omega)) [.cells 0 0 true [.sl ex (kI ks) ks.length], .cells 0 5 true (ts.map Tk.L).flatten] 1 0 (by decide) rfl rfl K hK
    simp only [List.length_map] at hcall
    refine calP_heap (hcall _ fun H' => ?_)
    have hc : ((ts.map Tk.L).filter (fun t => !kindIn ks t)).length = ts.length - cntT ks ts := by
      rw [List.filter_map, List.length_map, cntT]
      have h1 := len_split ts (fun t => decide ((t.kind : Int) ∈ ks))
      have h2 : ts.filter ((fun t => !kindIn ks t) ∘ Tk.L) = ts.filter (fun t => !decide ((t.kind : Int) ∈ ks)) := rfl
      rw [h2]
      omega
    have hcl : cntT ks ts ≤ ts.length := List.length_filter_le _ _
    simp -implicitDefEqProofs (disch := omega) only [↓ZD,ZP,cnd_t,cnd_f,↓reduceIte,Env.put,stepO,lenV,binV,binInt,unV,loadV,sliceV,boundOf,convV,slstrV,if_pos,if_neg,Int.reduceToNat,Nat.reducePow,V.cells,V.isCell,V.boxable,Nat.reduceEqDiff,reduceCtorEq,reduceIte,ite_self,enterEnv,e0,e1,hc]
    exact gives_eq rfl (by simp only [V.weak]; congr 1; omega)

/-- Kinds as numbers. -/
def kL (ks : List Int) : List V := ks.map fun k => .int .i64 k
theorem kL_len (ks : List Int) : (kL ks).length = ks.length := by simp [kL]
theorem kL_ro : ∀ ks : List Int, roL (kL ks) = true
  | [] => rfl
  | k :: ks => by simp only [kL,List.map_cons,roL,V.ro,Bool.true_and]; exact kL_ro ks
theorem kL_at {ks : List Int} {j : Nat} (h : j < ks.length) : (kL ks)[j]? = some (.int .i64 ks[j]) := by simp [kL, h]

theorem flatR_at {ts : List Tk} {i : Nat} (h : i < ts.length) : ((ts.map Tk.R).flatten)[i * 5]? = some (.int .i64 (ts[i].kind : Nat)) := by
  have h5 : ∀ t ∈ ts.map Tk.R, t.length = 5 := fun x hx => by obtain ⟨t, _, rfl⟩ := List.mem_map.1 hx; rfl
  have hi : i < (ts.map Tk.R).length := by simpa using h
  have := flatC_at h5 hi
  have h0 : ((ts.map Tk.R).flatten.drop (i * 5)).take 5 = ts[i].R := by rw [this]; simp
  have h1 : (((ts.map Tk.R).flatten.drop (i * 5)).take 5)[0]? = some (.int .i64 (ts[i].kind : Nat)) := by rw [h0]; rfl
  rwa [List.getElem?_take_of_lt (by omega), List.getElem?_drop, Nat.add_zero] at h1

theorem cnt_snoc (ks : List Int) (ts : List Tk) (t : Tk) : cntT ks (ts ++ [t]) = cntT ks ts + (if ((t.kind : Nat) : Int) ∈ ks then 1 else 0) := by
  rw [cntT, cntT, List.filter_append, List.length_append]
  congr 1
  by_cases h : ((t.kind : Nat) : Int) ∈ ks
  · rw [if_pos h]; simp [h]
  · rw [if_neg h]; simp [h]
theorem good417 (s : List UInt8) (ex : Bool) (ks : List Int) (hk : ks.length ≤ 4611686018427387904) (R : V) (hR : Good Go.Proofs.Tryz.prog 8 [.str s] R) (ts : List Tk) (hok : ∀ t ∈ ts, t.OK) (hn : ts.length ≤ 1025) (a b : V) (ha : a.ro = true) (hb : b.ro = true) (hRe : R = .tup [.sl false (ts.map Tk.R).flatten ts.length, a, b]) :
    Good Go.Proofs.Tryz.prog 17 [.str s, .sl ex (kL ks) ks.length] (.int .i64 (cntT ks ts)) := by
  subst hRe
  refine good_go mix s417 (Nat.le_of_ble_eq_true rfl) fun e he => ?_
  have e0 : e 0 = .str s := he 0
  have e1 : e 1 = .sl ex (kL ks) ks.length := he 1
  clear he
  simp only [c417,b417, oQ]
  have hro := (ok_ro ts hok).2
  simp -implicitDefEqProofs (disch := omega) only [↓ZD,ZP,cnd_t,cnd_f,↓reduceIte,Env.put,stepO,lenV,binV,binInt,unV,loadV,sliceV,boundOf,convV,slstrV,if_pos,if_neg,Int.reduceToNat,Nat.reducePow,V.cells,V.isCell,V.boxable,Nat.reduceEqDiff,reduceCtorEq,reduceIte,ite_self,enterEnv,e0,e1]
  refine calP_ro rfl hR (by simp [V.ro, roL, hro, ha, hb]) ?_
  simp -implicitDefEqProofs (disch := omega) only [↓ZD,ZP,cnd_t,cnd_f,↓reduceIte,Env.put,stepO,lenV,binV,binInt,unV,loadV,sliceV,boundOf,convV,slstrV,if_pos,if_neg,Int.reduceToNat,Nat.reducePow,V.cells,V.isCell,V.boxable,Nat.reduceEqDiff,reduceCtorEq,reduceIte,ite_self,enterEnv,e0,e1]
  have hfl : (ts.map Tk.R).flatten.length = ts.length * 5 := by
    rw [flatC_len 5 _ fun x hx => by obtain ⟨t, _, rfl⟩ := List.mem_map.1 hx; rfl]; simp
  refine go_loop (fun m e H => ∃ i : Nat, i ≤ ts.length ∧ m = ts.length - i ∧ e 1 = .sl ex (kL ks) ks.length ∧ e 5 = .sl false (ts.map Tk.R).flatten ts.length ∧ e 8 = .int .i64 (cntT ks (ts.take i) : Nat) ∧ e 9 = .int .i64 (i : Nat)) ts.length
    ⟨0, Nat.zero_le _, rfl, by simp [Env.set, e1], by simp [Env.set], by simp [Env.set, cntT], by simp [Env.set]⟩ ?_
  clear e0 e1
  rintro m e H ⟨i, hi, rfl, e1, e5, e8, e9⟩
  rcases Nat.lt_or_ge i ts.length with hlt | hge
  · have hat := flatR_at hlt
    have hkl := kL_len ks
    have hcl : cntT ks (ts.take i) ≤ (ts.take i).length := List.length_filter_le _ _
    rw [List.length_take] at hcl
    have htk : ts.take (i + 1) = ts.take i ++ [ts[i]] := by rw [List.take_add_one, List.getElem?_eq_getElem hlt]; rfl
    simp -implicitDefEqProofs (disch := omega) only [↓ZD,ZP,cnd_t,cnd_f,↓reduceIte,Env.put,stepO,lenV,binV,binInt,unV,loadV,sliceV,boundOf,convV,slstrV,if_pos,if_neg,Int.reduceToNat,Nat.reducePow,V.cells,V.isCell,V.boxable,Nat.reduceEqDiff,reduceCtorEq,reduceIte,ite_self,enterEnv,e1,e5,e8,e9,hlt]
    refine go_loop (fun m e H => ∃ k : Nat, k ≤ ks.length ∧ m = ks.length - k ∧ ((ts[i].kind : Nat) : Int) ∉ ks.take k ∧ e 1 = .sl ex (kL ks) ks.length ∧ e 5 = .sl false (ts.map Tk.R).flatten ts.length ∧ e 8 = .int .i64 (cntT ks (ts.take i) : Nat) ∧ e 9 = .int .i64 (i : Nat) ∧ e 10 = .int .i64 (k : Nat)) ks.length
      ⟨0, Nat.zero_le _, rfl, by simp, by simp [Env.set, e1], by simp [Env.set, e5], by simp [Env.set, e8], by simp [Env.set, e9], by simp [Env.set]⟩ ?_
    clear e1 e5 e8 e9
    rintro m e H ⟨k, hkk, rfl, hni, e1, e5, e8, e9, e10⟩
    rcases Nat.lt_or_ge k ks.length with hlk | hgk
    · have hka := kL_at hlk
      have hkt : ks.take (k + 1) = ks.take k ++ [ks[k]] := by rw [List.take_add_one, List.getElem?_eq_getElem hlk]; rfl
      generalize hF : (ts.map Tk.R).flatten = F at *
      simp -implicitDefEqProofs (disch := omega) only [↓ZD,ZP,cnd_t,cnd_f,↓reduceIte,Env.put,stepO,lenV,binV,binInt,unV,loadV,sliceV,boundOf,convV,slstrV,if_pos,if_neg,Int.reduceToNat,Nat.reducePow,V.cells,V.isCell,V.boxable,Nat.reduceEqDiff,reduceCtorEq,reduceIte,ite_self,enterEnv,e1,e5,e8,e9,e10,hlk,hat,hka,hfl,hkl]
      by_cases heq : ((ts[i].kind : Nat) : Int) = ks[k]
      · have hb : (((ts[i].kind : Nat) : Int) == ks[k]) = true := by simpa using heq
        simp -implicitDefEqProofs (disch := omega) only [↓ZD,ZP,cnd_t,cnd_f,↓reduceIte,Env.put,stepO,lenV,binV,binInt,unV,loadV,sliceV,boundOf,convV,slstrV,if_pos,if_neg,Int.reduceToNat,Nat.reducePow,V.cells,V.isCell,V.boxable,Nat.reduceEqDiff,reduceCtorEq,reduceIte,ite_self,enterEnv,e1,e5,e8,e9,e10,hb]
        have hin : ((ts[i].kind : Nat) : Int) ∈ ks := by rw [heq]; exact List.getElem_mem hlk
        exact ⟨_, by omega, i + 1, by omega, rfl, by rw [htk, cnt_snoc, if_pos hin], rfl⟩
      · have hb : (((ts[i].kind : Nat) : Int) == ks[k]) = false := by simpa using heq
        simp -implicitDefEqProofs (disch := omega) only [↓ZD,ZP,cnd_t,cnd_f,↓reduceIte,Env.put,stepO,lenV,binV,binInt,unV,loadV,sliceV,boundOf,convV,slstrV,if_pos,if_neg,Int.reduceToNat,Nat.reducePow,V.cells,V.isCell,V.boxable,Nat.reduceEqDiff,reduceCtorEq,reduceIte,ite_self,enterEnv,e1,e5,e8,e9,e10,hb]
        exact ⟨_, by omega, k + 1, by omega, rfl, fun hm => by
          rw [hkt, List.mem_append] at hm
          rcases hm with h | h
          · exact hni h
          · exact heq (by simpa using h), rfl⟩
    · have hnk : ¬ k < ks.length := by omega
      simp -implicitDefEqProofs (disch := omega) only [↓ZD,ZP,cnd_t,cnd_f,↓reduceIte,Env.put,stepO,lenV,binV,binInt,unV,loadV,sliceV,boundOf,convV,slstrV,if_pos,if_neg,Int.reduceToNat,Nat.reducePow,V.cells,V.isCell,V.boxable,Nat.reduceEqDiff,reduceCtorEq,reduceIte,ite_self,enterEnv,e1,e5,e8,e9,e10,hnk]
      have hin : ¬ ((ts[i].kind : Nat) : Int) ∈ ks := by rwa [show k = ks.length by omega, List.take_length] at hni
      exact ⟨_, by omega, i + 1, by omega, rfl, by rw [htk, cnt_snoc, if_neg hin, Nat.add_zero], rfl⟩
  · have hnl : ¬ i < ts.length := by omega
    have hil : i = ts.length := by omega
    subst hil
    rw [List.take_length] at e8
    simp -implicitDefEqProofs (disch := omega) only [↓ZD,ZP,cnd_t,cnd_f,↓reduceIte,Env.put,stepO,lenV,binV,binInt,unV,loadV,sliceV,boundOf,convV,slstrV,if_pos,if_neg,Int.reduceToNat,Nat.reducePow,V.cells,V.isCell,V.boxable,Nat.reduceEqDiff,reduceCtorEq,reduceIte,ite_self,enterEnv,e1,e5,e8,e9,hnl]
    exact gives_eq rfl rfl

/-- Numbers that grow, in memory. -/
def LAt (H : Heap) (v : V) (A : List Int) : Prop := (A = [] ∧ v = .sl true [] 0) ∨ ∃ b g, v = .view b g 0 A.length ∧ b < H.length ∧ H[b]? = some (.cells g 1 true (kL A))
theorem append_l {H : Heap} {v : V} {A : List Int} (h : LAt H v A) (k : Int) (hl : A.length ≤ 1000000000) :
    ∃ v' H', appendV 1 8 (H ++ [.cells 0 1 true [.int .i64 k]]) v (.view H.length 0 0 1) = some (v', H') ∧ LAt H' v' (A ++ [k]) := by
  have hlast : (H ++ [HObj.cells 0 1 true [.int .i64 k]])[H.length]? = some (.cells 0 1 true [.int .i64 k]) := by simp
  rcases h with ⟨rfl, rfl⟩ | ⟨b, g, rfl, hb, hHb⟩
  · refine ⟨.view (H.length + 1) 0 0 1, H ++ [HObj.cells 0 1 true [.int .i64 k]] ++ [.cells 0 1 true [.int .i64 k]], ?_, .inr ⟨H.length + 1, 0, rfl, by simp, ?_⟩⟩
    · simp [appendV, srcCells, readSl]
    · rw [List.getElem?_append_right (by simp)]; simp [kL]
  · have hgb : (H ++ [HObj.cells 0 1 true [.int .i64 k]])[b]? = some (.cells g 1 true (kL A)) := by rw [List.getElem?_append_left hb]; exact hHb
    have hkl := kL_len A
    have h1 : (A.length + 1) * 8 ≤ 140737488355328 := by omega
    have h2 : A.length + 1 ≤ 9223372036854775807 := by omega
    have h3 : (kL A).take A.length = kL A := by rw [← hkl, List.take_length]
    refine ⟨.view b (g + 1) 0 (A.length + 1), (H ++ [HObj.cells 0 1 true [.int .i64 k]]).set b (.cells (g + 1) 1 true (kL (A ++ [k]))), ?_, .inr ⟨b, g + 1, by simp, by simp; omega, by rw [List.getElem?_set_self (by simp; omega)]⟩⟩
    have h4 : kL (A ++ [k]) = kL A ++ [.int .i64 k] := by simp [kL]
    rw [h4]
    generalize kL A = F at *
    simp [appendV, srcCells, readSl, hgb, hkl, h1, h2, h3, V.isCell]

theorem good406 (s : List UInt8) (hs : s.length ≤ 1100000) (ex : Bool) (ks : List Int) (hk : ks.length ≤ 100000000) (hb : ∀ k ∈ ks, 0 ≤ k ∧ k ≤ 255) : Good Go.Proofs.Tryz.prog 6 [.str s, .sl ex (kI ks) ks.length] (.bool true) := by
  have key : ∃ c : Nat, Good Go.Proofs.Tryz.prog 16 [.str s, .sl ex (kI ks) ks.length] (.int .i64 c) ∧ ∀ ex', Good Go.Proofs.Tryz.prog 17 [.str s, .sl ex' (kL ks) ks.length] (.int .i64 c) := by
    have h8 := good408 s
    rcases good416 s ex ks (by omega) with ⟨er, j, hne, hQ, hg⟩ | ⟨ts, hok, hn, hQ, hg⟩
    · rw [hQ] at h8
      exact ⟨0, hg, fun ex' => good417 s ex' ks (by omega) _ h8 [] (fun t ht => by simp at ht) (by simp) (.int .i64 (er : Nat)) (.int .i64 (j : Nat)) rfl rfl rfl⟩
    · rw [hQ] at h8
      exact ⟨_, hg, fun ex' => good417 s ex' ks (by omega) _ h8 ts hok hn _ _ rfl rfl rfl⟩
  obtain ⟨c, h16, h17⟩ := key
  have h12 := good412 s hs
  have h18 := good418 s hs
  refine good_go mix s406 (Nat.le_of_ble_eq_true rfl) fun e he => ?_
  have e0 : e 0 = .str s := he 0
  have e1 : e 1 = .sl ex (kI ks) ks.length := he 1
  clear he
  simp only [c406,b406, oQ]
  simp -implicitDefEqProofs (disch := omega) only [↓ZD,ZP,cnd_t,cnd_f,↓reduceIte,Env.put,stepO,lenV,binV,binInt,unV,loadV,sliceV,boundOf,convV,slstrV,if_pos,if_neg,Int.reduceToNat,Nat.reducePow,V.cells,V.isCell,V.boxable,Nat.reduceEqDiff,reduceCtorEq,reduceIte,ite_self,enterEnv,e0,e1]
  refine go_loop (fun m e H => ∃ A Z v, ks = A ++ Z ∧ m = Z.length ∧ LAt H v A ∧ e 0 = .str s ∧ e 1 = .sl ex (kI ks) ks.length ∧ e 5 = v ∧ e 6 = .int .i64 (A.length : Nat)) ks.length
    ⟨[], ks, _, rfl, rfl, .inl ⟨rfl, rfl⟩, by simp [Env.set, e0], by simp [Env.set, e1], by simp [Env.set], by simp [Env.set]⟩ ?_
  clear e0 e1
  rintro m e H ⟨A, Z, v, hAZ, rfl, hv, e0, e1, e5, e6⟩
  cases Z with
  | cons k Z =>
    have hlt : A.length < ks.length := by rw [hAZ]; simp
    have hat : (kI ks)[A.length]? = some (.int .u8 k) := by rw [hAZ]; simp [kI]
    have hkl := kI_len ks
    have hbk := hb k (by rw [hAZ]; simp)
    obtain ⟨v', H', happ, hv'⟩ := append_l hv k (by omega)
    simp -implicitDefEqProofs (disch := omega) only [↓ZD,ZP,cnd_t,cnd_f,↓reduceIte,Env.put,stepO,lenV,binV,binInt,unV,loadV,sliceV,boundOf,convV,slstrV,if_pos,if_neg,Int.reduceToNat,Nat.reducePow,V.cells,V.isCell,V.boxable,Nat.reduceEqDiff,reduceCtorEq,reduceIte,ite_self,enterEnv,e0,e1,e5,e6,hlt,hat,hkl,fillL,evParts,splice,List.take_zero,List.take_succ_cons,List.drop_succ_cons,List.drop_zero,List.drop_nil,happ]
    exact ⟨_, by omega, A ++ [k], Z, v', by rw [hAZ]; simp, rfl, hv', rfl, by simp⟩
  | nil =>
    rw [List.append_nil] at hAZ
    subst hAZ
    have hnl : ¬ ks.length < ks.length := by omega
    simp -implicitDefEqProofs (disch := omega) only [↓ZD,ZP,cnd_t,cnd_f,↓reduceIte,Env.put,stepO,lenV,binV,binInt,unV,loadV,sliceV,boundOf,convV,slstrV,if_pos,if_neg,Int.reduceToNat,Nat.reducePow,V.cells,V.isCell,V.boxable,Nat.reduceEqDiff,reduceCtorEq,reduceIte,ite_self,enterEnv,e0,e1,e5,e6,hnl]
    refine calP_ro rfl good6 rfl ?_
    simp -implicitDefEqProofs (disch := omega) only [↓ZD,ZP,cnd_t,cnd_f,↓reduceIte,Env.put,stepO,lenV,binV,binInt,unV,loadV,sliceV,boundOf,convV,slstrV,if_pos,if_neg,Int.reduceToNat,Nat.reducePow,V.cells,V.isCell,V.boxable,Nat.reduceEqDiff,reduceCtorEq,reduceIte,ite_self,enterEnv,e0,e1,e5,e6,hnl]
    refine calP_ro (by simp [roL, V.ro, kI_ro]) h16 rfl ?_
    rcases hv with ⟨rfl, rfl⟩ | ⟨b, g, rfl, hbl, hHb⟩
    · simp -implicitDefEqProofs (disch := omega) only [↓ZD,ZP,cnd_t,cnd_f,↓reduceIte,Env.put,stepO,lenV,binV,binInt,unV,loadV,sliceV,boundOf,convV,slstrV,if_pos,if_neg,Int.reduceToNat,Nat.reducePow,V.cells,V.isCell,V.boxable,Nat.reduceEqDiff,reduceCtorEq,reduceIte,ite_self,enterEnv,e0,e1,e5,e6]
      refine calP_ro rfl (h17 true) rfl ?_
      simp -implicitDefEqProofs (disch := omega) only [↓ZD,ZP,cnd_t,cnd_f,↓reduceIte,Env.put,stepO,lenV,binV,binInt,unV,loadV,sliceV,boundOf,convV,slstrV,if_pos,if_neg,Int.reduceToNat,Nat.reducePow,V.cells,V.isCell,V.boxable,Nat.reduceEqDiff,reduceCtorEq,reduceIte,ite_self,enterEnv,e0,e1,e5,e6]
      refine calP_ro rfl h12 rfl ?_
      simp -implicitDefEqProofs (disch := omega) only [↓ZD,ZP,cnd_t,cnd_f,↓reduceIte,Env.put,stepO,lenV,binV,binInt,unV,loadV,sliceV,boundOf,convV,slstrV,if_pos,if_neg,Int.reduceToNat,Nat.reducePow,V.cells,V.isCell,V.boxable,Nat.reduceEqDiff,reduceCtorEq,reduceIte,ite_self,enterEnv,e0,e1,e5,e6]
      refine calP_ro rfl h18 rfl ?_
      simp -implicitDefEqProofs (disch := omega) only [↓ZD,ZP,cnd_t,cnd_f,↓reduceIte,Env.put,stepO,lenV,binV,binInt,unV,loadV,sliceV,boundOf,convV,slstrV,if_pos,if_neg,Int.reduceToNat,Nat.reducePow,V.cells,V.isCell,V.boxable,Nat.reduceEqDiff,reduceCtorEq,reduceIte,ite_self,enterEnv,e0,e1,e5,e6,binStr]
      exact gives_eq rfl rfl
    · simp -implicitDefEqProofs (disch := omega) only [↓ZD,ZP,cnd_t,cnd_f,↓reduceIte,Env.put,stepO,lenV,binV,binInt,unV,loadV,sliceV,boundOf,convV,slstrV,if_pos,if_neg,Int.reduceToNat,Nat.reducePow,V.cells,V.isCell,V.boxable,Nat.reduceEqDiff,reduceCtorEq,reduceIte,ite_self,enterEnv,e0,e1,e5,e6]
      have hkl := kL_len ks
      refine calP_lendc 1 (as' := [.str s, .sl false (kL ks) ks.length]) (H' := freezeL H (refsL [.str s, .view b g 0 ks.length])) ?_ (by simp [roL, V.ro, kL_ro]) (h17 false) rfl rfl ?_
      · simp only [List.append_nil,lend,borL,bor,hHb,if_true,List.drop_zero,Nat.mul_one]
        rw [← hkl, List.take_length]
      simp -implicitDefEqProofs (disch := omega) only [↓ZD,ZP,cnd_t,cnd_f,↓reduceIte,Env.put,stepO,lenV,binV,binInt,unV,loadV,sliceV,boundOf,convV,slstrV,if_pos,if_neg,Int.reduceToNat,Nat.reducePow,V.cells,V.isCell,V.boxable,Nat.reduceEqDiff,reduceCtorEq,reduceIte,ite_self,enterEnv,e0,e1,e5,e6]
      refine calP_ro rfl h12 rfl ?_
      simp -implicitDefEqProofs (disch := omega) only [↓ZD,ZP,cnd_t,cnd_f,↓reduceIte,Env.put,stepO,lenV,binV,binInt,unV,loadV,sliceV,boundOf,convV,slstrV,if_pos,if_neg,Int.reduceToNat,Nat.reducePow,V.cells,V.isCell,V.boxable,Nat.reduceEqDiff,reduceCtorEq,reduceIte,ite_self,enterEnv,e0,e1,e5,e6]
      refine calP_ro rfl h18 rfl ?_
      simp -implicitDefEqProofs (disch := omega) only [↓ZD,ZP,cnd_t,cnd_f,↓reduceIte,Env.put,stepO,lenV,binV,binInt,unV,loadV,sliceV,boundOf,convV,slstrV,if_pos,if_neg,Int.reduceToNat,Nat.reducePow,V.cells,V.isCell,V.boxable,Nat.reduceEqDiff,reduceCtorEq,reduceIte,ite_self,enterEnv,e0,e1,e5,e6,binStr]
      exact gives_eq rfl rfl
end Fe
