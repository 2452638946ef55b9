/-
  Contracts: division of limbs, and its law. No condition.
-/
import Derived.Test.YtjgjfabmakkooaaFeN
set_option linter.unusedSimpArgs false
set_option linter.unusedVariables false
open Go Go.Proofs
namespace Fe
def b33 : C :=
 (.seq
 (.region false [
 oQ 4 (.mov (.c (.sl true [] 0))),
 oQ 5 (.mov (.c (.sl true [] 0)))])
 (.seq
 (.region false [
 oQ 8 (.mov (.t 0)),
 ⟨some 9, .call false (.c (.fn 32 [] [])) [.t 8], none⟩,
 oQ 4 (.mov (.t 9))])
 (.seq
 (.region false [
 oQ 6 (.mov (.c (.int .u32 0)))])
 (.seq
 (.seq
 (.region false [
 oQ 10 (.mov (.t 4)),
 oQ 11 (.len false (.t 10)),
 oQ 12 (.bin 0 .sub (.t 11) (.c (.int .i64 1))),
 oQ 7 (.mov (.t 12))])
 (.block 0
 (.loop
 (.seq
 (.seq
 (.region false [
 oQ 13 (.mov (.t 7)),
 oQ 14 (.bin 0 .geq (.t 13) (.c (.int .i64 0)))])
 (.cond (.t 14)
 .skip
 (.exit 0)))
 (.seq
 (.block 1
 (.region false [
 oQ 18 (.mov (.t 4)),
 oQ 19 (.mov (.t 7)),
 oQ 20 (.mov (.t 6)),
 oQ 21 (.mov (.t 4)),
 oQ 22 (.mov (.t 7)),
 oQ 23 (.iaddr 1 (.t 21) (.t 22)),
 oQ 24 (.load false 1 (.t 23)),
 oQ 25 (.mov (.t 1)),
 ⟨some 26, .call false (.c (.fn 61 [] [])) [.t 20, .t 24, .t 25], none⟩,
 oQ 17 (.mov (.t 26)),
 oQ 27 (.extract (.t 17) 0),
 oQ 28 (.extract (.t 17) 1),
 oQ 29 (.iaddr 1 (.t 18) (.t 19)),
 ⟨none, .op (.store 1 (.t 29) (.t 27)), none⟩,
 oQ 6 (.mov (.t 28))]))
 (.region false [
 oQ 15 (.mov (.t 7)),
 oQ 16 (.bin 0 .sub (.t 15) (.c (.int .i64 1))),
 oQ 7 (.mov (.t 16))]))))))
 (.seq
 (.region false [
 oQ 30 (.mov (.t 4)),
 ⟨some 31, .call false (.c (.fn 36 [] [])) [.t 30], none⟩,
 oQ 32 (.mov (.t 6)),
 oQ 33 (.conv (.int .u64) (.t 32)),
 ⟨some 34, .call false (.c (.fn 44 [] [])) [.t 33], none⟩,
 oQ 4 (.mov (.t 31)),
 oQ 5 (.mov (.t 34))])
 .ret)))))
def c33 : CF := ⟨35, 2, [.mov (.t 4), .mov (.t 5)], b33⟩
def b66 : C :=
 (.seq
 (.region false [
 oQ 10 (.mov (.c (.int .u64 0)))])
 (.seq
 (.region false [
 oQ 14 (.mov (.t 0)),
 oQ 15 (.conv (.int .u64) (.t 14)),
 oQ 16 (.bin 0 .shl (.t 15) (.c (.int .u64 32))),
 oQ 17 (.mov (.t 1)),
 oQ 18 (.conv (.int .u64) (.t 17)),
 oQ 19 (.bin 0 .or (.t 16) (.t 18)),
 oQ 11 (.mov (.t 19))])
 (.seq
 (.region false [
 oQ 20 (.mov (.t 11)),
 oQ 21 (.mov (.t 3)),
 oQ 22 (.conv (.int .u64) (.t 21)),
 oQ 23 (.bin 0 .quo (.t 20) (.t 22)),
 oQ 24 (.mn (.t 23) (.c (.int .u64 4294967295))),
 oQ 12 (.mov (.t 24))])
 (.seq
 (.region false [
 oQ 25 (.mov (.t 11)),
 oQ 26 (.mov (.t 12)),
 oQ 27 (.mov (.t 3)),
 oQ 28 (.conv (.int .u64) (.t 27)),
 oQ 29 (.bin 0 .mul (.t 26) (.t 28)),
 oQ 30 (.bin 0 .sub (.t 25) (.t 29)),
 oQ 13 (.mov (.t 30))])
 (.seq
 (.block 0
 (.loop
 (.seq
 (.seq
 (.region false [
 oQ 31 (.mov (.t 13)),
 oQ 32 (.bin 0 .lss (.t 31) (.c (.int .u64 4294967296))),
 oQ 33 (.mov (.t 32)),
 ⟨some 34, .op (.mov (.t 12)), some (33, true)⟩,
 ⟨some 35, .op (.mov (.t 4)), some (33, true)⟩,
 ⟨some 36, .op (.conv (.int .u64) (.t 35)), some (33, true)⟩,
 ⟨some 37, .op (.bin 0 .mul (.t 34) (.t 36)), some (33, true)⟩,
 ⟨some 38, .op (.mov (.t 13)), some (33, true)⟩,
 ⟨some 39, .op (.bin 0 .shl (.t 38) (.c (.int .u64 32))), some (33, true)⟩,
 ⟨some 40, .op (.mov (.t 2)), some (33, true)⟩,
 ⟨some 41, .op (.conv (.int .u64) (.t 40)), some (33, true)⟩,
 ⟨some 42, .op (.bin 0 .or (.t 39) (.t 41)), some (33, true)⟩,
 ⟨some 43, .op (.bin 0 .gtr (.t 37) (.t 42)), some (33, true)⟩,
 oQ 44 (.pick (.t 33) (.t 43) (.c (.bool false)))])
 (.cond (.t 44)
 .skip
 (.exit 0)))
 (.block 1
 (.seq
 (.region false [
 oQ 45 (.mov (.t 12)),
 oQ 46 (.bin 0 .sub (.t 45) (.c (.int .u64 1))),
 oQ 12 (.mov (.t 46))])
 (.region false [
 oQ 47 (.mov (.t 13)),
 oQ 48 (.mov (.t 3)),
 oQ 49 (.conv (.int .u64) (.t 48)),
 oQ 50 (.bin 0 .add (.t 47) (.t 49)),
 oQ 13 (.mov (.t 50))]))))))
 (.seq
 (.region false [
 oQ 51 (.mov (.t 12)),
 oQ 10 (.mov (.t 51))])
 .ret))))))
def c66 : CF := ⟨52, 5, [.mov (.t 10)], b66⟩
def b67 : C :=
 (.seq
 (.region false [
 oQ 8 (.mov (.c (.int .u32 0)))])
 (.seq
 (.region false [
 oQ 9 (.mov (.c (.int .u64 0))),
 oQ 10 (.mov (.c (.int .u32 0)))])
 (.seq
 (.seq
 (.region false [
 oQ 13 (.mov (.t 1)),
 oQ 14 (.len false (.t 13)),
 oQ 15 (.mov (.c (.int .i64 0)))])
 (.block 0
 (.loop
 (.seq
 (.region false [
 oQ 16 (.bin 0 .lss (.t 15) (.t 14))])
 (.seq
 (.cond (.t 16)
 .skip
 (.exit 0))
 (.seq
 (.block 1
 (.seq
 (.region false [
 oQ 17 (.mov (.t 15)),
 oQ 18 (.iaddr 1 (.t 13) (.t 15)),
 oQ 19 (.load false 1 (.t 18)),
 oQ 11 (.mov (.t 17)),
 oQ 12 (.mov (.t 19))])
 (.seq
 (.region false [
 oQ 20 (.mov (.t 9)),
 oQ 21 (.mov (.t 2)),
 oQ 22 (.mov (.t 12)),
 oQ 23 (.conv (.int .u64) (.t 22)),
 oQ 24 (.bin 0 .mul (.t 21) (.t 23)),
 oQ 25 (.bin 0 .add (.t 20) (.t 24)),
 oQ 9 (.mov (.t 25))])
 (.seq
 (.region false [
 oQ 27 (.mov (.t 0)),
 oQ 28 (.mov (.t 3)),
 oQ 29 (.mov (.t 11)),
 oQ 30 (.bin 0 .add (.t 28) (.t 29)),
 oQ 31 (.mov (.t 0)),
 oQ 32 (.mov (.t 3)),
 oQ 33 (.mov (.t 11)),
 oQ 34 (.bin 0 .add (.t 32) (.t 33)),
 oQ 35 (.iaddr 1 (.t 31) (.t 34)),
 oQ 36 (.load false 1 (.t 35)),
 oQ 37 (.mov (.t 9)),
 oQ 38 (.conv (.int .u32) (.t 37)),
 oQ 39 (.mov (.t 10)),
 ⟨some 40, .call false (.c (.fn 83 [] [])) [.t 36, .t 38, .t 39], none⟩,
 oQ 26 (.mov (.t 40)),
 oQ 41 (.extract (.t 26) 0),
 oQ 42 (.extract (.t 26) 1),
 oQ 43 (.iaddr 1 (.t 27) (.t 30)),
 ⟨none, .op (.store 1 (.t 43) (.t 41)), none⟩,
 oQ 10 (.mov (.t 42))])
 (.region false [
 oQ 44 (.mov (.t 9)),
 oQ 45 (.bin 0 .shr (.t 44) (.c (.int .u64 32))),
 oQ 9 (.mov (.t 45))])))))
 (.region false [
 oQ 46 (.bin 0 .add (.t 15) (.c (.int .i64 1))),
 oQ 15 (.mov (.t 46))])))))))
 (.seq
 (.region false [
 oQ 48 (.mov (.t 0)),
 oQ 49 (.mov (.t 3)),
 oQ 50 (.mov (.t 1)),
 oQ 51 (.len false (.t 50)),
 oQ 52 (.bin 0 .add (.t 49) (.t 51)),
 oQ 53 (.mov (.t 0)),
 oQ 54 (.mov (.t 3)),
 oQ 55 (.mov (.t 1)),
 oQ 56 (.len false (.t 55)),
 oQ 57 (.bin 0 .add (.t 54) (.t 56)),
 oQ 58 (.iaddr 1 (.t 53) (.t 57)),
 oQ 59 (.load false 1 (.t 58)),
 oQ 60 (.mov (.t 9)),
 oQ 61 (.conv (.int .u32) (.t 60)),
 oQ 62 (.mov (.t 10)),
 ⟨some 63, .call false (.c (.fn 83 [] [])) [.t 59, .t 61, .t 62], none⟩,
 oQ 47 (.mov (.t 63)),
 oQ 64 (.extract (.t 47) 0),
 oQ 65 (.extract (.t 47) 1),
 oQ 66 (.iaddr 1 (.t 48) (.t 52)),
 ⟨none, .op (.store 1 (.t 66) (.t 64)), none⟩,
 oQ 10 (.mov (.t 65))])
 (.seq
 (.region false [
 oQ 67 (.mov (.t 10)),
 oQ 8 (.mov (.t 67))])
 .ret)))))
def c67 : CF := ⟨68, 4, [.mov (.t 8)], b67⟩
theorem s33 : stripF Go.Proofs.Try.prog 33 = some c33 := by kernel_rfl
theorem s66 : stripF Go.Proofs.Try.prog 66 = some c66 := by kernel_rfl
theorem s67 : stripF Go.Proofs.Try.prog 67 = some c67 := by kernel_rfl

/-- Division by one limb, from the highest: the quotient's limbs, and what is left. -/
def sdiv (d : Nat) : List Nat → List Nat × Nat
  | [] => ([], 0)
  | x :: r => (((sdiv d r).2 * 4294967296 + x) / d :: (sdiv d r).1, ((sdiv d r).2 * 4294967296 + x) % d)

/-- The guess of a quotient's limb. -/
def guessL (v1 v0 u0 : Nat) : Nat → Nat → Nat → Nat
  | 0, q, _ => q
  | k + 1, q, rest => if rest < 4294967296 ∧ q * v0 > rest * 4294967296 + u0 then guessL v1 v0 u0 k (q - 1) (rest + v1) else q
def guess (u2 u1 u0 v1 v0 : Nat) : Nat :=
  let top := u2 * 4294967296 + u1
  let q := min (top / v1) 4294967295
  guessL v1 v0 u0 3 q (top - q * v1)

/-- The walk, over names for what is reckoned. -/
theorem walk66 (u2 u1 u0 v1 v0 top q rest r : Nat) (h2 : u2 < 4294967296) (h1 : u1 < 4294967296) (h0 : u0 < 4294967296) (hv1 : v1 < 4294967296) (hv0 : v0 < 4294967296) (hb : 2147483648 ≤ v1)
    (htop : u2 * 4294967296 + u1 = top) (ht64 : top < 18446744073709551616) (Q : Nat) (hQ : top / v1 = Q) (hQ64 : Q < 18446744073709551616) (hq : (if (4294967295 : Int) < (Q : Int) then (4294967295 : Int) else (Q : Int)) = (q : Int)) (hq32 : q < 4294967296)
    (p : Nat) (hp : q * v1 = p) (hpt : p ≤ top) (hr : top - p = rest) (hrest : rest < 18446744060824649728) (hg : guessL v1 v0 u0 3 q rest = r) :
    Good Go.Proofs.Try.prog 66 [limb u2, limb u1, limb u0, limb v1, limb v0] (.int .u64 r) := by
  refine good_go mix s66 (Nat.le_of_ble_eq_true rfl) fun e he => ?_
  have e0 : e 0 = limb u2 := he 0
  have e1 : e 1 = limb u1 := he 1
  have e2 : e 2 = limb u0 := he 2
  have e3 : e 3 = limb v1 := he 3
  have e4 : e 4 = limb v0 := he 4
  clear he
  simp only [c66,b66, oQ]
  have hp64 : p < 18446744073709551616 := by omega
  simp -implicitDefEqProofs (disch := omega) only [↓ZD,ZP,cnd_t,cnd_f,↓reduceIte,Env.put,stepO,lenV,binV,binInt,unV,loadV,sliceV,boundOf,convV,slstrV,if_pos,if_neg,Int.reduceToNat,Nat.reducePow,V.cells,V.isCell,V.boxable,Nat.reduceEqDiff,reduceCtorEq,reduceIte,ite_self,enterEnv,e0,e1,e2,e3,e4,limb,shl_c,shr_c,tdiv_c,htop,hQ,hq,mul_c,hp,sub_c,hr]
  refine go_loop (fun m e H => H = [] ∧ ∃ q rest : Nat, e 12 = .int .u64 q ∧ e 13 = .int .u64 rest ∧ e 2 = limb u0 ∧ e 3 = limb v1 ∧ e 4 = limb v0 ∧ q < 4294967296 ∧ rest + m * 4294967296 < 18446744073709551616 ∧ guessL v1 v0 u0 m q rest = r ∧ 6442450944 ≤ rest + m * 2147483648) 3 ⟨rfl, q, rest, by simp [Env.set], by simp [Env.set], e2, e3, e4, hq32, by omega, hg, by omega⟩ ?_
  rintro m e H ⟨rfl, q, rest, h12, h13, h2, h3, h4, hq32, hr64, hg, hmm⟩
  have hout : ∀ m q rest, ¬ (rest < 4294967296 ∧ q * v0 > rest * 4294967296 + u0) → guessL v1 v0 u0 m q rest = q := by
    intro m q rest hn
    cases m with
    | zero => rfl
    | succ k => simp only [guessL,if_neg hn]
  by_cases hc : rest < 4294967296
  · obtain ⟨pv, hpv⟩ : ∃ pv, q * v0 = pv := ⟨_, rfl⟩
    have hpv64 : pv < 18446744073709551616 := by
      have := Nat.mul_lt_mul'' hq32 hv0
      omega
    obtain ⟨w, hw⟩ : ∃ w, rest * 4294967296 + u0 = w := ⟨_, rfl⟩
    have hw64 : w < 18446744073709551616 := by omega
    have hr1 : rest * 4294967296 < 18446744073709551616 := by omega
    by_cases hd : pv > w
    · cases m with
      | zero => omega
      | succ k =>
        have hq0 : 1 ≤ q := by
          rcases Nat.eq_zero_or_pos q with h | h
          · rw [h, Nat.zero_mul] at hpv; omega
          · exact h
        simp -implicitDefEqProofs (disch := omega) only [↓ZD,ZP,cnd_t,cnd_f,↓reduceIte,Env.put,stepO,lenV,binV,binInt,unV,loadV,sliceV,boundOf,convV,slstrV,if_pos,if_neg,Int.reduceToNat,Nat.reducePow,V.cells,V.isCell,V.boxable,Nat.reduceEqDiff,reduceCtorEq,reduceIte,ite_self,enterEnv,h12,h13,h2,h3,h4,limb,shl_c,mul_c,hpv,hw,sub_one_c]
        refine ⟨k, by omega, q - 1, rest + v1, rfl, rfl, by omega, by omega, ?_, by omega⟩
        rw [← hg]
        simp only [guessL]
        rw [if_pos]
        omega
    · simp -implicitDefEqProofs (disch := omega) only [↓ZD,ZP,cnd_t,cnd_f,↓reduceIte,Env.put,stepO,lenV,binV,binInt,unV,loadV,sliceV,boundOf,convV,slstrV,if_pos,if_neg,Int.reduceToNat,Nat.reducePow,V.cells,V.isCell,V.boxable,Nat.reduceEqDiff,reduceCtorEq,reduceIte,ite_self,enterEnv,h12,h13,h2,h3,h4,limb,shl_c,mul_c,hpv,hw]
      refine gives_eq rfl ?_
      rw [← hg, hout m q rest (by omega)]
      rfl
  · simp -implicitDefEqProofs (disch := omega) only [↓ZD,ZP,cnd_t,cnd_f,↓reduceIte,Env.put,stepO,lenV,binV,binInt,unV,loadV,sliceV,boundOf,convV,slstrV,if_pos,if_neg,Int.reduceToNat,Nat.reducePow,V.cells,V.isCell,V.boxable,Nat.reduceEqDiff,reduceCtorEq,reduceIte,ite_self,enterEnv,h12,h13,h2,h3,h4,limb]
    refine gives_eq rfl ?_
    rw [← hg, hout m q rest (by omega)]
    rfl

theorem rest_lt (top v1 : Nat) (h1 : 2147483648 ≤ v1) (h2 : v1 < 4294967296) (ht : top < v1 * 4294967296 + 4294967296) : top - min (top / v1) 4294967295 * v1 < 18446744060824649728 := by
  have h4 := Nat.div_add_mod top v1
  have h5 := Nat.mod_lt top (by omega : v1 > 0)
  rcases Nat.le_total (top / v1) 4294967295 with h6 | h6
  · rw [Nat.min_eq_left h6]
    rw [Nat.mul_comm] at h4
    generalize top / v1 * v1 = pp at *
    generalize top % v1 = mm at *
    omega
  · rw [Nat.min_eq_right h6]
    omega

theorem good66 (u2 u1 u0 v1 v0 : Nat) (h2 : u2 < 4294967296) (h1 : u1 < 4294967296) (h0 : u0 < 4294967296) (hv1 : v1 < 4294967296) (hv0 : v0 < 4294967296) (hb : 2147483648 ≤ v1) (hu : u2 ≤ v1) :
    Good Go.Proofs.Try.prog 66 [limb u2, limb u1, limb u0, limb v1, limb v0] (.int .u64 (guess u2 u1 u0 v1 v0)) := by
  have hq : min ((u2 * 4294967296 + u1) / v1) 4294967295 ≤ (u2 * 4294967296 + u1) / v1 := Nat.min_le_left _ _
  have hp : min ((u2 * 4294967296 + u1) / v1) 4294967295 * v1 ≤ u2 * 4294967296 + u1 := Nat.le_trans (Nat.mul_le_mul_right v1 hq) (Nat.div_mul_le_self _ _)
  have hQ : (u2 * 4294967296 + u1) / v1 ≤ u2 * 4294967296 + u1 := Nat.div_le_self _ _
  have hrest := rest_lt (u2 * 4294967296 + u1) v1 hb hv1 (by omega)
  refine walk66 u2 u1 u0 v1 v0 _ (min ((u2 * 4294967296 + u1) / v1) 4294967295) _ _ h2 h1 h0 hv1 hv0 hb rfl (by omega) _ rfl (by omega) ?_ (by omega) _ rfl hp rfl hrest rfl
  generalize (u2 * 4294967296 + u1) / v1 = Q
  split <;> omega

theorem cutR_mem : ∀ (l : List Nat) (x : Nat), x ∈ cutR l → x ∈ l
  | n :: r, x, h => by
    simp only [cutR] at h
    split at h
    · exact List.mem_cons_of_mem _ (cutR_mem r x h)
    · exact h
theorem cut_mem (l : List Nat) (x : Nat) (h : x ∈ cut l) : x ∈ l := by
  simp only [cut,List.mem_reverse] at h
  simpa using cutR_mem _ _ h
theorem cut_lm {l : List Nat} (h : Lm l) : Lm (cut l) := fun x hx => h x (cut_mem l x hx)

theorem sdiv_lt (d : Nat) (hd : 0 < d) : ∀ l : List Nat, (sdiv d l).2 < d
  | [] => hd
  | x :: r => Nat.mod_lt _ hd
/-- Division by one limb. -/
theorem good33 (ex : Bool) (a : List Nat) (d : Nat) (hd : 0 < d) (hd2 : d < 4294967296) (ha : Lm a) (hl : a.length ≤ 1100000) :
    Good Go.Proofs.Try.prog 33 [nsl ex a, limb d] (.tup [nf (cut (sdiv d (cut a)).1), nf (cut [(sdiv d (cut a)).2, 0])]) := by
  have hcl := cut_len a
  refine good_go mix s33 (Nat.le_of_ble_eq_true rfl) fun e he => ?_
  have e0 : e 0 = nsl ex a := he 0
  have e1 : e 1 = limb d := he 1
  clear he
  simp only [c33,b33, oQ]
  simp -implicitDefEqProofs (disch := omega) only [↓ZD,ZP,cnd_t,cnd_f,↓reduceIte,Env.put,stepO,lenV,binV,binInt,unV,loadV,sliceV,boundOf,convV,slstrV,if_pos,if_neg,Int.reduceToNat,Nat.reducePow,V.cells,V.isCell,V.boxable,Nat.reduceEqDiff,reduceCtorEq,reduceIte,ite_self,enterEnv,e0,e1]
  by_cases hne : cut a = []
  · refine calP_ro (nl_ro_1 _ _) (trim32 ex a hl) (nf_ro _) ?_
    rw [hne]
    simp -implicitDefEqProofs (disch := omega) only [↓ZD,ZP,cnd_t,cnd_f,↓reduceIte,Env.put,stepO,lenV,binV,binInt,unV,loadV,sliceV,boundOf,convV,slstrV,if_pos,if_neg,Int.reduceToNat,Nat.reducePow,V.cells,V.isCell,V.boxable,Nat.reduceEqDiff,reduceCtorEq,reduceIte,ite_self,enterEnv,e0,e1,nf,nsl,nl_nil]
    refine go_loop (fun m e H => H = [] ∧ e 7 = .int .i64 (-1) ∧ e 4 = nf [] ∧ e 6 = limb 0) 0 ⟨rfl, by simp [Env.set], rfl, rfl⟩ ?_
    rintro m e H ⟨rfl, h7, h4, h6⟩
    simp -implicitDefEqProofs (disch := omega) only [↓ZD,ZP,cnd_t,cnd_f,↓reduceIte,Env.put,stepO,lenV,binV,binInt,unV,loadV,sliceV,boundOf,convV,slstrV,if_pos,if_neg,Int.reduceToNat,Nat.reducePow,V.cells,V.isCell,V.boxable,Nat.reduceEqDiff,reduceCtorEq,reduceIte,ite_self,enterEnv,h7,h4,h6,limb]
    refine calP_ro (nl_ro_1 _ _) (good36 false [] (by simp)) (nsl_ro _ _) ?_
    simp -implicitDefEqProofs (disch := omega) only [↓ZD,ZP,cnd_t,cnd_f,↓reduceIte,Env.put,stepO,lenV,binV,binInt,unV,loadV,sliceV,boundOf,convV,slstrV,if_pos,if_neg,Int.reduceToNat,Nat.reducePow,V.cells,V.isCell,V.boxable,Nat.reduceEqDiff,reduceCtorEq,reduceIte,ite_self,enterEnv,h7,h4,h6,limb]
    refine calP_ro rfl (good44 0 (by omega)) (nf_ro _) ?_
    simp -implicitDefEqProofs (disch := omega) only [↓ZD,ZP,cnd_t,cnd_f,↓reduceIte,Env.put,stepO,lenV,binV,binInt,unV,loadV,sliceV,boundOf,convV,slstrV,if_pos,if_neg,Int.reduceToNat,Nat.reducePow,V.cells,V.isCell,V.boxable,Nat.reduceEqDiff,reduceCtorEq,reduceIte,ite_self,enterEnv]
    refine gives_eq ?_ rfl
    simp only [V.ro,roL,nsl_ro,nf_ro]
    rfl
  · refine calP_lend 0 lend0 (nl_ro_1 _ _) (own_good32 ex a hne hl) ?_
    simp -implicitDefEqProofs (disch := omega) only [↓ZD,ZP,cnd_t,cnd_f,↓reduceIte,Env.put,stepO,lenV,binV,binInt,unV,loadV,sliceV,boundOf,convV,slstrV,if_pos,if_neg,Int.reduceToNat,Nat.reducePow,V.cells,V.isCell,V.boxable,Nat.reduceEqDiff,reduceCtorEq,reduceIte,ite_self,enterEnv,adopt,adopt1,lend0,e0,e1]
    refine go_loop (fun m e H => ∃ B D suf, m = B.length ∧ cut a = B ++ suf ∧ D.length = suf.length ∧ e 1 = limb d ∧ e 4 = .view 0 0 0 (cut a).length ∧ e 7 = .int .i64 ((B.length : Int) - 1) ∧ e 6 = limb (sdiv d suf).2 ∧ D = (sdiv d suf).1 ∧ H = [.cells 0 1 true (nl (B ++ D))])
      (cut a).length ⟨cut a, [], [], rfl, by simp, rfl, by simp [Env.set, e1], by simp [Env.set], by simp [Env.set], rfl, rfl, by simp [nl]⟩ ?_
    rintro m e H ⟨B, D, suf, rfl, hB, hD, h1, h4, h7, h6, hDs, rfl⟩
    have hlen : (cut a).length = B.length + suf.length := by rw [hB]; simp
    rcases List.eq_nil_or_concat B with rfl | ⟨B, x, rfl⟩
    · rw [List.nil_append] at hB
      have hDl : D.length = (cut a).length := by rw [hD, hB]
      simp -implicitDefEqProofs (disch := omega) only [↓ZD,ZP,cnd_t,cnd_f,↓reduceIte,Env.put,stepO,lenV,binV,binInt,unV,loadV,sliceV,boundOf,convV,slstrV,if_pos,if_neg,Int.reduceToNat,Nat.reducePow,V.cells,V.isCell,V.boxable,Nat.reduceEqDiff,reduceCtorEq,reduceIte,ite_self,enterEnv,h7,h4]
      refine calP_lr 1 (lend_all true D hDl) (nl_ro_1 _ _) (good36 false D (by omega)) (nsl_ro _ _) fun H'' _ => ?_
      have hr := sdiv_lt d hd suf
      have e44 : (sdiv d suf).2 % 4294967296 = (sdiv d suf).2 := Nat.mod_eq_of_lt (by omega)
      have e45 : (sdiv d suf).2 / 4294967296 = 0 := Nat.div_eq_of_lt (by omega)
      have hg := good44 (sdiv d suf).2 (by omega)
      rw [e44, e45] at hg
      generalize hs2 : (sdiv d suf).2 = s2 at *
      simp -implicitDefEqProofs (disch := omega) only [↓ZD,ZP,cnd_t,cnd_f,↓reduceIte,Env.put,stepO,lenV,binV,binInt,unV,loadV,sliceV,boundOf,convV,slstrV,if_pos,if_neg,Int.reduceToNat,Nat.reducePow,V.cells,V.isCell,V.boxable,Nat.reduceEqDiff,reduceCtorEq,reduceIte,ite_self,enterEnv,h6,limb]
      refine calP_ro rfl hg (nf_ro _) ?_
      simp -implicitDefEqProofs (disch := omega) only [↓ZD,ZP,cnd_t,cnd_f,↓reduceIte,Env.put,stepO,lenV,binV,binInt,unV,loadV,sliceV,boundOf,convV,slstrV,if_pos,if_neg,Int.reduceToNat,Nat.reducePow,V.cells,V.isCell,V.boxable,Nat.reduceEqDiff,reduceCtorEq,reduceIte,ite_self,enterEnv]
      refine gives_eq ?_ ?_
      · simp only [V.ro,roL,nsl_ro,nf_ro]; rfl
      · rw [hB, hs2, ← hDs]; rfl
    · rw [List.concat_eq_append] at *
      simp only [List.length_append,List.length_cons,List.length_nil] at h7 hlen
      have h7' : e 7 = .int .i64 B.length := by rw [h7]; congr 1; omega
      have hx : x < 4294967296 := cut_lm ha x (by rw [hB]; simp)
      have hr := sdiv_lt d hd suf
      have g1 := nl_at B D x rfl
      have hg := good61 (sdiv d suf).2 x d hd2 hr hx
      have hsd : sdiv d (x :: suf) = (((sdiv d suf).2 * 4294967296 + x) / d :: (sdiv d suf).1, ((sdiv d suf).2 * 4294967296 + x) % d) := rfl
      generalize (sdiv d suf).2 = s2 at *
      generalize (s2 * 4294967296 + x) / d = qq at *
      generalize (s2 * 4294967296 + x) % d = rr at *
      have g2 := nl_put B D x qq rfl
      simp -implicitDefEqProofs (disch := omega) only [↓ZD,ZP,cnd_t,cnd_f,↓reduceIte,Env.put,stepO,lenV,binV,binInt,unV,loadV,sliceV,boundOf,convV,slstrV,if_pos,if_neg,Int.reduceToNat,Nat.reducePow,V.cells,V.isCell,V.boxable,Nat.reduceEqDiff,reduceCtorEq,reduceIte,ite_self,enterEnv,h1,h4,h6,h7',List.append_assoc,g1]
      refine calP_ro rfl hg rfl ?_
      simp -implicitDefEqProofs (disch := omega) only [↓ZD,ZP,cnd_t,cnd_f,↓reduceIte,Env.put,stepO,lenV,binV,binInt,unV,loadV,sliceV,boundOf,convV,slstrV,if_pos,if_neg,Int.reduceToNat,Nat.reducePow,V.cells,V.isCell,V.boxable,Nat.reduceEqDiff,reduceCtorEq,reduceIte,ite_self,enterEnv,h1,h4,h6,h7',List.append_assoc,limb,g2,nl_len]
      exact ⟨B.length, by omega, B, qq :: D, x :: suf, rfl, by rw [hB]; simp, by simp [hD], rfl, by rw [hsd], by rw [hsd, hDs], rfl⟩
end Fe
open Go Go.Proofs
namespace Fe

/-- q times v taken off: what stays, and the borrow; carry and borrow come in. -/
def takeL (q : Nat) : Nat → Nat → List Nat → List Nat → List Nat × Nat × Nat
  | c, b, x :: v, u :: us =>
    let p := c + q * x
    let r := takeL q (p / 4294967296) (bor32 u (p % 4294967296) b) v us
    (sub32 u (p % 4294967296) b :: r.1, r.2)
  | c, b, _, us => (us, c, b)

/-- The state of memory that take works on: a block of limbs, seen from its first. -/
theorem call67 (L : List Nat) (N k g : Nat) (H : Heap) (exv : Bool) (v : List Nat) (q at' : Nat) (A us : List Nat) (u : Nat) (Z : List Nat)
    (hL : L = A ++ us ++ u :: Z) (hA : A.length = at') (hus : us.length = v.length) (hH : H[k]? = some (.cells g 1 true (nl L))) (hN : L.length = N)
    (hv : Lm v) (hLm : Lm L) (hq : q < 4294967296) (hN6 : N ≤ 1100000) (K : V → Heap → Prop)
    (hK : ∀ r c b, takeL q 0 0 v us = (r, c, b) → K (limb (bor32 u (c % 4294967296) b)) (H.set k (.cells g 1 true (nl (A ++ r ++ sub32 u (c % 4294967296) b :: Z))))) :
    Call2 Go.Proofs.Try.prog 67 [.view k g 0 N, nsl exv v, .int .u64 q, .int .i64 at'] H K := by
  refine call2_go mix s67 (Nat.le_of_ble_eq_true rfl) fun e he => ?_
  have e0 : e 0 = .view k g 0 N := he 0
  have e1 : e 1 = nsl exv v := he 1
  have e2 : e 2 = .int .u64 q := he 2
  have e3 : e 3 = .int .i64 at' := he 3
  clear he
  simp only [c67,b67, oQ]
  have hkl : k < H.length := getElem?_lt hH
  have hNl : at' + us.length + 1 + Z.length = N := by rw [← hN, hL]; simp; omega
  have hLu : u < 4294967296 := hLm u (by rw [hL]; simp)
  have hH0 : H = H.set k (.cells g 1 true (nl L)) := by
    apply List.ext_getElem? fun j => ?_
    by_cases hj : j = k
    · subst hj; rw [List.getElem?_set_self hkl]; exact hH
    · rw [List.getElem?_set_ne (Ne.symm hj)]
  simp -implicitDefEqProofs (disch := omega) only [↓ZD,ZP,cnd_t,cnd_f,↓reduceIte,Env.put,stepO,lenV,binV,binInt,unV,loadV,sliceV,boundOf,convV,slstrV,if_pos,if_neg,Int.reduceToNat,Nat.reducePow,V.cells,V.isCell,V.boxable,Nat.reduceEqDiff,reduceCtorEq,reduceIte,ite_self,enterEnv,e0,e1,e2,e3,nsl]
  refine go_loop (fun m e H' => ∃ (V1 v' R us' : List Nat) (c b : Nat), m = v'.length ∧ v = V1 ++ v' ∧ R.length = V1.length ∧ us'.length = v'.length ∧ H' = H.set k (.cells g 1 true (nl (A ++ R ++ us' ++ u :: Z))) ∧
    e 0 = .view k g 0 N ∧ e 1 = nsl exv v ∧ e 2 = .int .u64 q ∧ e 3 = .int .i64 at' ∧ e 9 = .int .u64 c ∧ e 10 = limb b ∧ e 13 = nsl exv v ∧ e 14 = .int .i64 v.length ∧ e 15 = .int .i64 V1.length ∧
    takeL q 0 0 v us = (R ++ (takeL q c b v' us').1, (takeL q c b v' us').2) ∧ c < 4294967296 ∧ b ≤ 1 ∧ (∀ x ∈ us', x < 4294967296)) v.length
    ⟨[], v, [], us, 0, 0, rfl, rfl, rfl, hus, ?_, e0, e1, e2, e3, by simp [Env.set], by simp [Env.set, limb], by simp [Env.set, nsl], by simp [Env.set], by simp [Env.set], rfl, by omega, by omega, ?_⟩ ?_
  · rw [List.append_nil, ← hL]; exact hH0
  · intro x hx; exact hLm x (by rw [hL]; simp [hx])
  rintro m e H' ⟨V1, v', R, us', c, b, rfl, rfl, hR, hus', rfl, h0, h1, h2, h3, h9, h10, h13, h14, h15, ht, hc, hb, hul⟩
  simp only [List.length_append] at hus h14
  cases v' with
  | nil =>
    have : us' = [] := List.length_eq_zero_iff.1 hus'
    subst this
    rw [List.append_nil] at h1 h13 hv ht
    simp only [List.append_nil] at hK ⊢
    simp only [List.length_nil,Nat.add_zero] at hus h14
    have hK' := hK R c b (by rw [ht]; simp [takeL])
    rw [Nat.mod_eq_of_lt hc] at hK'
    have g1 := nl_at (A ++ R) Z u (i := at' + V1.length) (by simp [hA, hR])
    have g2 := nl_put (A ++ R) Z u (sub32 u c b) (i := at' + V1.length) (by simp [hA, hR])
    have hget := List.getElem?_set_self (a := HObj.cells g 1 true (nl (A ++ R ++ u :: Z))) hkl
    have hg := good83 u c b hLu hc hb
    have hlen : (nl (A ++ R ++ u :: Z)).length = N := by rw [nl_len]; simp [hA, hR]; omega
    generalize sub32 u c b = s1 at *
    generalize bor32 u c b = s2 at *
    generalize nl (A ++ R ++ u :: Z) = LL at *
    simp -implicitDefEqProofs (disch := omega) only [↓ZD,ZP,cnd_t,cnd_f,↓reduceIte,Env.put,stepO,lenV,binV,binInt,unV,loadV,sliceV,boundOf,convV,slstrV,if_pos,if_neg,Int.reduceToNat,Nat.reducePow,V.cells,V.isCell,V.boxable,Nat.reduceEqDiff,reduceCtorEq,reduceIte,ite_self,enterEnv,h0,h1,h2,h3,h9,h10,h13,h14,h15,nsl,hget,List.length_set,g1,limb]
    refine calP_ro rfl hg rfl ?_
    simp -implicitDefEqProofs (disch := omega) only [↓ZD,ZP,cnd_t,cnd_f,↓reduceIte,Env.put,stepO,lenV,binV,binInt,unV,loadV,sliceV,boundOf,convV,slstrV,if_pos,if_neg,Int.reduceToNat,Nat.reducePow,V.cells,V.isCell,V.boxable,Nat.reduceEqDiff,reduceCtorEq,reduceIte,ite_self,enterEnv,h0,h1,h2,h3,h9,h10,h13,h14,h15,nsl,hget,List.length_set,g1,limb,List.set_set,g2,hlen]
    exact hK'
  | cons x v' =>
    cases us' with
    | nil => simp at hus'
    | cons y us' =>
    simp only [List.length_cons] at hus h14 hus'
    have hx : x < 4294967296 := hv x (by simp)
    have hy : y < 4294967296 := hul y (by simp)
    have gx := nl_at V1 v' x rfl
    have hqx : q * x < 18446744065119617026 := by
      have := Nat.mul_lt_mul'' hq hx
      have h2 : q * x ≤ 4294967295 * 4294967295 := Nat.mul_le_mul (by omega) (by omega)
      omega
    have ht' := ht
    rw [takeL] at ht'
    obtain ⟨p, hp⟩ : ∃ p, c + q * x = p := ⟨_, rfl⟩
    obtain ⟨mm, hmm⟩ : ∃ mm, q * x = mm := ⟨_, rfl⟩
    obtain ⟨lo, hlo⟩ : ∃ lo, p % 4294967296 = lo := ⟨_, rfl⟩
    obtain ⟨hi, hhi⟩ : ∃ hi, p / 4294967296 = hi := ⟨_, rfl⟩
    simp only [hp,hlo,hhi] at ht'
    rw [hmm] at hp hqx
    have hlo32 : lo < 4294967296 := by omega
    have hhi32 : hi < 4294967296 := by omega
    have hp64 : p < 18446744073709551616 := by omega
    have g1 := nl_at (A ++ R) (us' ++ u :: Z) y (i := at' + V1.length) (by simp [hA, hR])
    have g2 := nl_put (A ++ R) (us' ++ u :: Z) y (sub32 y lo b) (i := at' + V1.length) (by simp [hA, hR])
    have hassoc : A ++ R ++ (y :: us') ++ u :: Z = A ++ R ++ y :: (us' ++ u :: Z) := by simp
    have hassoc2 : A ++ R ++ sub32 y lo b :: (us' ++ u :: Z) = A ++ (R ++ [sub32 y lo b]) ++ us' ++ u :: Z := by simp
    rw [hassoc2] at g2
    rw [hassoc]
    have hget := List.getElem?_set_self (a := HObj.cells g 1 true (nl (A ++ R ++ y :: (us' ++ u :: Z)))) hkl
    have hg := good83 y lo b hy hlo32 hb
    have hlen : (nl (A ++ R ++ y :: (us' ++ u :: Z))).length = N := by rw [nl_len]; simp [hA, hR]; omega
    have hb1 : bor32 y lo b ≤ 1 := by simp only [bor32]; split <;> omega
    generalize sub32 y lo b = s1 at *
    generalize bor32 y lo b = s2 at *
    generalize nl (A ++ R ++ y :: (us' ++ u :: Z)) = LL at *
    simp -implicitDefEqProofs (disch := omega) only [↓ZD,ZP,cnd_t,cnd_f,↓reduceIte,Env.put,stepO,lenV,binV,binInt,unV,loadV,sliceV,boundOf,convV,slstrV,if_pos,if_neg,Int.reduceToNat,Nat.reducePow,V.cells,V.isCell,V.boxable,Nat.reduceEqDiff,reduceCtorEq,reduceIte,ite_self,enterEnv,h0,h1,h2,h3,h9,h10,h13,h14,h15,nsl,hget,List.length_set,gx,g1,limb,mul_c,hmm,hp,w32,hlo,shr_c,hhi]
    refine calP_ro rfl hg rfl ?_
    simp -implicitDefEqProofs (disch := omega) only [↓ZD,ZP,cnd_t,cnd_f,↓reduceIte,Env.put,stepO,lenV,binV,binInt,unV,loadV,sliceV,boundOf,convV,slstrV,if_pos,if_neg,Int.reduceToNat,Nat.reducePow,V.cells,V.isCell,V.boxable,Nat.reduceEqDiff,reduceCtorEq,reduceIte,ite_self,enterEnv,h0,h1,h2,h3,h9,h10,h13,h14,h15,nsl,hget,List.length_set,gx,g1,limb,List.set_set,g2,hlen,shr_c,hhi]
    refine ⟨v'.length, by omega, V1 ++ [x], v', R ++ [s1], us', hi, s2, rfl, by simp, by simp [hR], by omega, rfl, rfl, rfl, by simp, ?_, hhi32, hb1, fun z hz => hul z (List.mem_cons_of_mem _ hz)⟩
    rw [ht']
    simp
end Fe
open Go Go.Proofs
namespace Fe

/-! ### Knuth's guess: at most one too great -/
theorem knuth_low {q D T M V W vr wr : Nat} (hV : V = D * M + vr) (hW : W = T * M + wr) (hwr : wr < M) (h : q * V ≤ W) : q * D ≤ T := by
  rcases Nat.lt_or_ge T (q * D) with h1 | h1
  · exfalso
    have h2 : (T + 1) * M ≤ q * D * M := Nat.mul_le_mul_right M h1
    have h3 : q * D * M ≤ q * V := by rw [hV, Nat.mul_add, Nat.mul_assoc]; exact Nat.le_add_right _ _
    rw [Nat.add_mul, Nat.one_mul] at h2
    omega
  · exact h1

theorem knuth_high {q D T M V W vr wr : Nat} (hV : V = D * M + vr) (hW : W = T * M + wr) (h : q * D ≤ T) (hq : q * vr ≤ V) : q * V ≤ W + V := by
  have h2 : q * D * M ≤ T * M := Nat.mul_le_mul_right M h
  have h3 : q * V = q * D * M + q * vr := by rw [hV, Nat.mul_add, Nat.mul_assoc]
  omega

/-- The guess: Q or Q + 1. -/
theorem guessL_ok {v1 v0 u0 top V W M vr wr Q : Nat} (hv1 : 2147483648 ≤ v1) (hv0 : v0 < 4294967296) (hM : 0 < M) (hvr : vr < M) (hwr : wr < M) (hu0 : u0 < 4294967296)
    (hV : V = (v1 * 4294967296 + v0) * M + vr) (hW : W = (top * 4294967296 + u0) * M + wr) (hQ1 : Q * V ≤ W) (hQ2 : W < (Q + 1) * V) :
    ∀ (k q rest : Nat), q * v1 + rest = top → Q ≤ q → q ≤ 4294967295 → 4294967296 ≤ rest + k * 2147483648 → Q ≤ guessL v1 v0 u0 k q rest ∧ guessL v1 v0 u0 k q rest ≤ Q + 1 := by
  have hD : ∀ q, Q < q → q * V > W := by
    intro q hq
    have := Nat.mul_le_mul_right V (show Q + 1 ≤ q from hq)
    omega
  have hlow := knuth_low (q := Q) hV hW hwr hQ1
  have hVM : 2147483648 * 4294967296 * M ≤ V := by
    rw [hV]
    have h1 : 2147483648 * 4294967296 ≤ v1 * 4294967296 + v0 := by omega
    have := Nat.mul_le_mul_right M h1
    omega
  have hup : ∀ q, q ≤ 4294967295 → q * V ≤ W + V → q ≤ Q + 1 := by
    intro q _ h
    rcases Nat.lt_or_ge (Q + 1) q with h1 | h1
    · exfalso
      have h2 := Nat.mul_le_mul_right V (show Q + 2 ≤ q from h1)
      have h3 : (Q + 2) * V = (Q + 1) * V + V := by rw [show Q + 2 = Q + 1 + 1 from rfl, Nat.add_mul (Q + 1) 1, Nat.one_mul]
      omega
    · exact h1
  have hsmall : ∀ q, q ≤ 4294967295 → q * vr ≤ V := by
    intro q hq
    have h1 : q * vr ≤ 4294967295 * M := Nat.mul_le_mul hq (Nat.le_of_lt hvr)
    have h2 : 4294967295 * M ≤ 2147483648 * 4294967296 * M := Nat.mul_le_mul_right M (by omega)
    omega
  have hexit2 : ∀ q rest, q * v1 + rest = top → 4294967296 ≤ rest → q ≤ 4294967295 → q ≤ Q + 1 := by
    intro q rest hr hb hq
    refine hup q hq ?_
    have h1 : q * (v1 * 4294967296 + v0) ≤ top * 4294967296 + u0 := by
      have e1 : q * (v1 * 4294967296 + v0) = q * v1 * 4294967296 + q * v0 := by rw [Nat.mul_add, Nat.mul_assoc]
      have e2 : q * v0 ≤ 4294967295 * 4294967296 := Nat.mul_le_mul hq (Nat.le_of_lt hv0)
      rw [e1, ← hr, Nat.add_mul]
      have e3 : 4294967296 * 4294967296 ≤ rest * 4294967296 := Nat.mul_le_mul_right _ hb
      omega
    exact knuth_high hV hW h1 (hsmall q hq)
  intro k
  induction k with
  | zero =>
    intro q rest hr hq hq2 hb
    exact ⟨hq, hexit2 q rest hr (by omega) hq2⟩
  | succ k ih =>
    intro q rest hr hq hq2 hb
    have e1 : q * (v1 * 4294967296 + v0) = q * v1 * 4294967296 + q * v0 := by rw [Nat.mul_add, Nat.mul_assoc]
    have e2 : top * 4294967296 + u0 = q * v1 * 4294967296 + (rest * 4294967296 + u0) := by rw [← hr, Nat.add_mul, Nat.add_assoc]
    simp only [guessL]
    split
    · rename_i hc
      have hne : q ≠ Q := by
        rintro rfl
        omega
      have hq1 : 1 ≤ q := by omega
      refine ih (q - 1) (rest + v1) ?_ (by omega) (by omega) (by omega)
      have : q * v1 = (q - 1) * v1 + v1 := by
        rw [← Nat.succ_mul]
        congr 1
        omega
      omega
    · rename_i hc
      refine ⟨hq, ?_⟩
      rcases Nat.lt_or_ge rest 4294967296 with h1 | h1
      · refine hup q hq2 (knuth_high hV hW ?_ (hsmall q hq2))
        omega
      · exact hexit2 q rest hr h1 hq2

theorem guess_ok {u2 u1 v1 v0 u0 V W M vr wr : Nat} (hv1 : 2147483648 ≤ v1) (hv0 : v0 < 4294967296) (hM : 0 < M) (hvr : vr < M) (hwr : wr < M) (hu0 : u0 < 4294967296)
    (hV : V = (v1 * 4294967296 + v0) * M + vr) (hW : W = ((u2 * 4294967296 + u1) * 4294967296 + u0) * M + wr) (hWV : W < 4294967296 * V) :
    W / V ≤ guess u2 u1 u0 v1 v0 ∧ guess u2 u1 u0 v1 v0 ≤ W / V + 1 := by
  have hVpos : 0 < V := by
    rw [hV]
    have : 0 < (v1 * 4294967296 + v0) * M := Nat.mul_pos (by omega) hM
    omega
  have hQ1 : W / V * V ≤ W := Nat.div_mul_le_self W V
  have hQ2 : W < (W / V + 1) * V := by
    have h1 := Nat.div_add_mod W V
    have h2 := Nat.mod_lt W hVpos
    rw [Nat.add_mul, Nat.one_mul, Nat.mul_comm (W / V) V]
    omega
  have hQB : W / V ≤ 4294967295 := by
    have := (Nat.div_lt_iff_lt_mul hVpos).2 hWV
    omega
  have hlow := knuth_low (q := W / V) hV hW hwr hQ1
  generalize W / V = Q at *
  have hQt : Q ≤ (u2 * 4294967296 + u1) / v1 := by
    rw [Nat.le_div_iff_mul_le (by omega)]
    have e1 : Q * (v1 * 4294967296 + v0) = Q * v1 * 4294967296 + Q * v0 := by rw [Nat.mul_add, Nat.mul_assoc]
    omega
  have hle : min ((u2 * 4294967296 + u1) / v1) 4294967295 * v1 ≤ u2 * 4294967296 + u1 :=
    Nat.le_trans (Nat.mul_le_mul_right v1 (Nat.min_le_left _ _)) (Nat.div_mul_le_self _ _)
  simp only [guess]
  exact guessL_ok hv1 hv0 hM hvr hwr hu0 hV hW hQ1 hQ2 3 _ _ (Nat.add_sub_cancel' hle) (Nat.le_min.2 ⟨hQt, hQB⟩) (Nat.min_le_right _ _) (Nat.le_trans (by decide : 4294967296 ≤ 3 * 2147483648) (Nat.le_add_left _ _))
end Fe
open Go Go.Proofs
namespace Fe

/-! ### Limbs and their values -/
theorem val_app : ∀ A C : List Nat, val (A ++ C) = val A + 4294967296 ^ A.length * val C
  | [], C => by simp [val]
  | x :: A, C => by
    simp only [List.cons_append,val,val_app A C,List.length_cons,Nat.pow_succ]
    rw [Nat.mul_add, ← Nat.mul_assoc, Nat.mul_comm 4294967296 (4294967296 ^ A.length), Nat.add_assoc]
theorem val_lt : ∀ {l : List Nat}, Lm l → val l < 4294967296 ^ l.length
  | [], _ => by simp [val]
  | x :: r, h => by
    have h1 := h x (List.mem_cons_self ..)
    have h2 := val_lt (l := r) fun y hy => h y (List.mem_cons_of_mem _ hy)
    simp only [val,List.length_cons,Nat.pow_succ]
    have h3 : 4294967296 * (val r + 1) ≤ 4294967296 * 4294967296 ^ r.length := Nat.mul_le_mul_left _ h2
    rw [Nat.mul_add] at h3
    rw [Nat.mul_comm (4294967296 ^ r.length)]
    omega
theorem Lm.tail {x : Nat} {r : List Nat} (h : Lm (x :: r)) : Lm r := fun y hy => h y (List.mem_cons_of_mem _ hy)
theorem Lm.head {x : Nat} {r : List Nat} (h : Lm (x :: r)) : x < 4294967296 := h x (List.mem_cons_self ..)
theorem Lm.app {A C : List Nat} (h1 : Lm A) (h2 : Lm C) : Lm (A ++ C) := fun x hx => by
  rcases List.mem_append.1 hx with h | h
  · exact h1 x h
  · exact h2 x h
theorem Lm.left {A C : List Nat} (h : Lm (A ++ C)) : Lm A := fun x hx => h x (List.mem_append_left _ hx)
theorem Lm.right {A C : List Nat} (h : Lm (A ++ C)) : Lm C := fun x hx => h x (List.mem_append_right _ hx)

theorem cutR_app : ∀ (l : List Nat) (x : Nat), cutR (l ++ [x]) = if cutR l = [] then (if x = 0 then [] else [x]) else cutR l ++ [x]
  | [], x => by simp [cutR]
  | y :: l, x => by
    simp only [List.cons_append,cutR]
    split
    · exact cutR_app l x
    · simp
theorem cut_cons (x : Nat) (r : List Nat) : cut (x :: r) = if cut r = [] then (if x = 0 then [] else [x]) else x :: cut r := by
  simp only [cut,List.reverse_cons,cutR_app]
  by_cases h : cutR r.reverse = []
  · by_cases hx : x = 0
    · simp [h, hx]
    · simp [h, hx]
  · simp [h]

/-- A number's limbs. -/
def lim (n : Nat) : List Nat := if h : n = 0 then [] else n % 4294967296 :: lim (n / 4294967296)
termination_by n
decreasing_by omega
theorem lim_zero : lim 0 = [] := by rw [lim]; simp
theorem lim_pos {n : Nat} (h : n ≠ 0) : lim n = n % 4294967296 :: lim (n / 4294967296) := by rw [lim]; simp [h]
theorem lim_val (n : Nat) : val (lim n) = n := by
  induction n using Nat.strongRecOn with
  | _ n ih =>
    by_cases h : n = 0
    · subst h; rw [lim_zero]; rfl
    · rw [lim_pos h, val, ih _ (by omega)]; omega
theorem lim_lm (n : Nat) : Lm (lim n) := by
  induction n using Nat.strongRecOn with
  | _ n ih =>
    by_cases h : n = 0
    · subst h; rw [lim_zero]; intro x hx; simp at hx
    · rw [lim_pos h]
      intro x hx
      rcases List.mem_cons.1 hx with rfl | hx
      · exact Nat.mod_lt _ (by decide)
      · exact ih _ (by omega) x hx
theorem lim_eq_nil {n : Nat} : lim n = [] ↔ n = 0 := by
  constructor
  · intro h
    rcases Nat.eq_zero_or_pos n with h0 | h0
    · exact h0
    · rw [lim_pos (by omega)] at h; cases h
  · rintro rfl; exact lim_zero
theorem cut_lim : ∀ {l : List Nat}, Lm l → cut l = lim (val l)
  | [], _ => by rw [val, lim_zero]; rfl
  | x :: r, h => by
    have ih := cut_lim h.tail
    have hx := h.head
    rw [cut_cons, ih, val]
    by_cases h0 : val r = 0
    · rw [if_pos (lim_eq_nil.2 h0), h0, Nat.mul_zero, Nat.add_zero]
      split
      · rename_i hx0; rw [hx0, lim_zero]
      · rename_i hx0
        rw [lim_pos hx0, Nat.mod_eq_of_lt hx, Nat.div_eq_of_lt hx, lim_zero]
    · rw [if_neg (fun hh => h0 (lim_eq_nil.1 hh)), lim_pos (n := x + 4294967296 * val r) (by omega)]
      congr 1
      · omega
      · congr 1; omega
theorem lim_len {n k : Nat} (h : n < 4294967296 ^ k) : (lim n).length ≤ k := by
  induction k generalizing n with
  | zero => rw [Nat.pow_zero] at h; have : n = 0 := by omega
            subst this; rw [lim_zero]; exact Nat.le_refl _
  | succ k ih =>
    by_cases h0 : n = 0
    · subst h0; rw [lim_zero]; exact Nat.zero_le _
    · rw [lim_pos h0, List.length_cons]
      have := ih (n := n / 4294967296) (by rw [Nat.div_lt_iff_lt_mul (by decide)]; rw [Nat.pow_succ] at h; exact h)
      omega

/-! ### What is taken off -/
theorem sub_bor {u y b : Nat} (hu : u < 4294967296) (hy : y < 4294967296) (hb : b ≤ 1) : u + 4294967296 * bor32 u y b = sub32 u y b + y + b := by
  simp only [bor32,sub32]
  split <;> omega
theorem bor_le (u y b : Nat) : bor32 u y b ≤ 1 := by simp only [bor32]; split <;> omega
theorem takeL_val (q : Nat) (hq : q < 4294967296) : ∀ (v us : List Nat) (c b : Nat), us.length = v.length → Lm v → Lm us → c < 4294967296 → b ≤ 1 →
    val us + 4294967296 ^ v.length * ((takeL q c b v us).2.1 + (takeL q c b v us).2.2) = val (takeL q c b v us).1 + q * val v + c + b ∧
      Lm (takeL q c b v us).1 ∧ (takeL q c b v us).1.length = v.length ∧ (takeL q c b v us).2.1 < 4294967296 ∧ (takeL q c b v us).2.2 ≤ 1
  | [], us, c, b, hl, hv, hu, hc, hb => by
    have : us = [] := List.length_eq_zero_iff.1 hl
    subst this
    refine ⟨by simp [takeL, val], fun x hx => by simp [takeL] at hx, rfl, hc, hb⟩
  | x :: v, [], c, b, hl, _, _, _, _ => by simp at hl
  | x :: v, u :: us, c, b, hl, hv, hu, hc, hb => by
    have hx := hv.head
    have hu0 := hu.head
    have hqx : q * x ≤ 4294967295 * 4294967295 := Nat.mul_le_mul (by omega) (by omega)
    have ih := takeL_val q hq v us ((c + q * x) / 4294967296) (bor32 u ((c + q * x) % 4294967296) b) (by simpa using hl) hv.tail hu.tail (by omega) (bor_le _ _ _)
    have hs := sub_bor (u := u) (y := (c + q * x) % 4294967296) (b := b) hu0 (by omega) hb
    have hs32 := sub32_lt u ((c + q * x) % 4294967296) b
    simp only [takeL,val,List.length_cons,Nat.pow_succ]
    obtain ⟨h1, h2, h3, h4, h5⟩ := ih
    refine ⟨?_, ?_, by rw [h3], h4, h5⟩
    · have hqv : q * (x + 4294967296 * val v) = q * x + 4294967296 * (q * val v) := by rw [Nat.mul_add]; congr 1; rw [Nat.mul_left_comm]
      rw [hqv]
      generalize takeL q ((c + q * x) / 4294967296) (bor32 u ((c + q * x) % 4294967296) b) v us = t at *
      generalize q * val v = qv at *
      generalize q * x = qx at *
      generalize sub32 u ((c + qx) % 4294967296) b = s at *
      generalize bor32 u ((c + qx) % 4294967296) b = bb at *
      have e : 4294967296 ^ v.length * 4294967296 * (t.2.1 + t.2.2) = 4294967296 * (4294967296 ^ v.length * (t.2.1 + t.2.2)) := by
        rw [Nat.mul_comm (4294967296 ^ v.length) 4294967296, Nat.mul_assoc]
      rw [e]
      generalize 4294967296 ^ v.length * (t.2.1 + t.2.2) = pw at *
      omega
    · intro z hz
      rcases List.mem_cons.1 hz with rfl | hz
      · exact hs32
      · exact h2 z hz
end Fe
open Go Go.Proofs
namespace Fe

/-- What is handed back ar one's own may be taken to be read only. -/
theorem Good.toRo {P : Program} {f : FuncId} {ar cs : List V} {esz n : Nat} (h : Good P f ar (.osl esz cs n)) (hro : roL cs = true) : Good P f ar (.sl false (cs.take (n * esz)) n) := by
  refine ⟨h.1, fun Bad w ca hbad hbase hs hrel => (h.2 Bad w ca hbad hbase hs hrel).mono ?_⟩
  rintro e w' ⟨c, rfl, hb, hres, ρ, hI, hk, hr⟩
  refine ⟨c, rfl, hb, ?_⟩
  obtain ⟨l1, l2, l3, l4⟩ := lend_rel 1 (vs := [.view 0 0 0 n]) (ca := #[c]) hI rfl (fun i hi => by
    have : i = 0 := by simpa using hi
    subst this; exact hr)
  have hl : (lend 1 (adopt (.osl esz cs n) []).2 [.view 0 0 0 n]).2 = [.sl false (cs.take (n * esz)) n] := by
    simp [lend1, borL, bor, adopt, adopt1]
  have hrel' := l4 0 (by rw [hl]; simp)
  have h0 : ((lend 1 (adopt (.osl esz cs n) []).2 [.view 0 0 0 n]).2)[0]'(by rw [hl]; simp) = .sl false (cs.take (n * esz)) n := by simp [hl]
  rw [h0] at hrel'
  have hro' : (V.sl false (cs.take (n * esz)) n).ro = true := roL_of fun v hv => roL_mem hro v (List.mem_of_mem_take hv)
  refine ⟨res_of_ro hro', ρ, ?_, ?_, ?_⟩
  · rw [adopt_ro hro']
    exact ⟨hI.out, fun i j hi => absurd hi (Nat.not_lt_zero _), fun k hk => absurd hk (Nat.not_lt_zero _), fun k _ _ _ _ h => by simp at h, fun k _ _ h => by simp at h, fun k _ _ _ _ _ h => by simp at h, fun k _ h => by simp at h, hI.base.same (Nat.le_refl _) (fun _ _ _ => rfl) (fun B _ h => by
        rcases h with h | ⟨k, o, hk, _⟩
        · exact .inl h
        · simp at hk)⟩
  · rw [adopt_ro hro']
    intro k hk
    exact absurd hk (Nat.not_lt_zero _)
  · rw [adopt_ro hro']
    refine hrel'.ro_mono (fun _ _ _ => rfl) ?_ hro'
    rintro B _ (h | ⟨k, o, hk, _⟩)
    · exact .inl h
    · simp at hk

theorem shl65 (ex : Bool) (a : List Nat) (n : Nat) (hn : n ≤ 31) (ha : Lm a) (hl : a.length ≤ 1100000) : Good Go.Proofs.Try.prog 65 [nsl ex a, .int .i64 n] (nf (shl n 0 a)) := by
  have h := (good65 ex a n hn ha hl).toRo (nl_ro _)
  have e : (nl (shl n 0 a)).take ((a.length + 1) * 1) = nl (shl n 0 a) := by
    rw [Nat.mul_one, ← shl_len n 0 a, ← nl_len (shl n 0 a), List.take_length]
  rw [e, ← shl_len n 0 a] at h
  exact h

section
variable {P : Program} {e : Env} {H : Heap} {S : List Fr} {K : Cont} {lim' : Option Nat} {os : List Op} {d : Option Nat}
theorem calD_ro {f : FuncId} {ar : List V} {r : V} (hro : roL ar = true) (hg : Good P f ar r) (hr : r.ro = true) (h : ops P lim' os (e.put d r) H S K) : calD P (.fn f [] []) ar d lim' os e H S K := by
  have ha : [] ++ ar ++ [] = ar := by simp
  refine callC_callD ⟨r, ?_, hr, ?_, h⟩
  · rw [ha]; exact hro
  · rw [ha]; exact hg
theorem calD_lend (n : Nat) {f : FuncId} {ar ar' : List V} {r : V} {H' : Heap} (hl : lend n H ar = (H', ar')) (hro : roL ar' = true) (hg : Good P f ar' r) (h : ops P lim' os (e.put d (adopt r (if r.loose = true then H else H')).1) (adopt r (if r.loose = true then H else H')).2 S K) :
    calD P (.fn f [] []) ar d lim' os e H S K := by
  have ha : [] ++ ar ++ [] = ar := by simp
  refine ⟨n, r, ?_, ?_, ?_⟩
  · rw [ha, hl]; exact hro
  · rw [ha, hl]; exact hg
  · rw [ha, hl]; exact h
theorem calD_lr (n : Nat) {f : FuncId} {ar ar' : List V} {r : V} {H' : Heap} (hl : lend n H ar = (H', ar')) (hro : roL ar' = true) (hg : Good P f ar' r) (hr : r.ro = true) (h : ∀ H'', (H'' = H ∨ H'' = H') → ops P lim' os (e.put d r) H'' S K) :
    calD P (.fn f [] []) ar d lim' os e H S K := by
  refine calD_lend n hl hro hg ?_
  rw [adopt_ro hr]
  refine h _ ?_
  split
  · exact .inl rfl
  · exact .inr rfl
end

/-- V added back: what stays, and the carry. -/
def addL : Nat → List Nat → List Nat → List Nat × Nat
  | c, x :: v, u :: us => ((u + x + c) % 4294967296 :: (addL ((u + x + c) / 4294967296) v us).1, (addL ((u + x + c) / 4294967296) v us).2)
  | c, _, us => (us, c)
theorem addL_val : ∀ (v us : List Nat) (c : Nat), us.length = v.length → Lm v → Lm us → c ≤ 1 →
    val (addL c v us).1 + 4294967296 ^ v.length * (addL c v us).2 = val us + val v + c ∧ Lm (addL c v us).1 ∧ (addL c v us).1.length = v.length ∧ (addL c v us).2 ≤ 1
  | [], us, c, hl, hv, hu, hc => by
    have : us = [] := List.length_eq_zero_iff.1 hl
    subst this
    refine ⟨by simp [addL, val], fun x hx => by simp [addL] at hx, rfl, hc⟩
  | x :: v, [], c, hl, _, _, _ => by simp at hl
  | x :: v, u :: us, c, hl, hv, hu, hc => by
    have hx := hv.head
    have hu0 := hu.head
    obtain ⟨h1, h2, h3, h4⟩ := addL_val v us ((u + x + c) / 4294967296) (by simpa using hl) hv.tail hu.tail (by omega)
    simp only [addL,val,List.length_cons,Nat.pow_succ]
    refine ⟨?_, ?_, by rw [h3], h4⟩
    · generalize addL ((u + x + c) / 4294967296) v us = t at *
      have e : 4294967296 ^ v.length * 4294967296 * t.2 = 4294967296 * (4294967296 ^ v.length * t.2) := by
        rw [Nat.mul_comm (4294967296 ^ v.length) 4294967296, Nat.mul_assoc]
      rw [e]
      generalize 4294967296 ^ v.length * t.2 = pw at *
      omega
    · intro z hz
      rcases List.mem_cons.1 hz with rfl | hz
      · exact Nat.mod_lt _ (by decide)
      · exact h2 z hz
end Fe
open Go Go.Proofs
namespace Fe

theorem lim_last {n : Nat} (h : n ≠ 0) : ∃ B t, lim n = B ++ [t] ∧ t ≠ 0 ∧ t < 4294967296 ∧ Lm B := by
  have hc : cut (lim n) = lim n := by rw [cut_lim (lim_lm n), lim_val]
  rcases List.eq_nil_or_concat (lim n) with h0 | ⟨B, t, ht⟩
  · exact absurd (lim_eq_nil.1 h0) h
  · rw [List.concat_eq_append] at ht
    refine ⟨B, t, ht, ?_, lim_lm n t (by rw [ht]; simp), fun x hx => lim_lm n x (by rw [ht]; simp [hx])⟩
    rintro rfl
    rw [ht, cut_last, if_pos rfl] at hc
    have h1 := cut_len B
    rw [hc] at h1
    simp at h1
    omega

/-- A divisor made great: what shifted makes of it. -/
theorem norm {nb : Nat} (hnb : nb ≠ 0) (hK : 2 ≤ (lim nb).length) : ∃ B t n vl v0 v1, lim nb = B ++ [t] ∧ t < 4294967296 ∧ n = lead t ∧ n ≤ 31 ∧
    shl n 0 (lim nb) = (vl ++ [v0, v1]) ++ [0] ∧ (vl ++ [v0, v1]).length = (lim nb).length ∧ Lm (vl ++ [v0, v1]) ∧ val (vl ++ [v0, v1]) = nb * 2 ^ n ∧ 2147483648 ≤ v1 := by
  obtain ⟨B, t, hB, ht0, ht, hBl⟩ := lim_last hnb
  obtain ⟨hn, hlo, hhi⟩ := lead_spec t ht0 ht
  obtain ⟨n, hnn⟩ : ∃ n, lead t = n := ⟨_, rfl⟩
  rw [hnn] at hn hlo hhi
  have hlm := shl_lm n (by omega) 0 (lim nb) (Nat.two_pow_pos n) (lim_lm nb)
  have hval := shl_val n 0 (lim nb)
  rw [lim_val, Nat.add_zero] at hval
  have hlen := shl_len n 0 (lim nb)
  have hvn : nb = val B + 4294967296 ^ B.length * t := by
    rw [← lim_val nb, hB, val_app]
    simp [val]
  have hBv := val_lt hBl
  have hBlen : (lim nb).length = B.length + 1 := by rw [hB]; simp
  -- the top
  have ht1 : (t + 1) * 2 ^ n ≤ 4294967296 := by
    have e : (4294967296 : Nat) = 2 ^ (32 - n) * 2 ^ n := by rw [← Nat.pow_add, show 32 - n + n = 32 by omega]
    rw [e]
    refine Nat.mul_le_mul_right _ ?_
    have h1 : t * 2 ^ n < 2 ^ (32 - n) * 2 ^ n := by rw [← e]; exact hhi
    exact Nat.lt_of_mul_lt_mul_right h1
  have hup : nb * 2 ^ n < 4294967296 ^ (B.length + 1) := by
    have h1 : nb + 1 ≤ 4294967296 ^ B.length * (t + 1) := by rw [Nat.mul_add, Nat.mul_one]; omega
    have h2 := Nat.mul_le_mul_right (2 ^ n) h1
    rw [Nat.mul_assoc] at h2
    have h3 := Nat.mul_le_mul_left (4294967296 ^ B.length) ht1
    rw [Nat.add_mul, Nat.one_mul] at h2
    have := Nat.two_pow_pos n
    rw [Nat.pow_succ]
    omega
  have hdn : 4294967296 ^ B.length * 2147483648 ≤ nb * 2 ^ n := by
    have h1 : 4294967296 ^ B.length * t ≤ nb := by omega
    have h2 := Nat.mul_le_mul_right (2 ^ n) h1
    rw [Nat.mul_assoc] at h2
    have h3 := Nat.mul_le_mul_left (4294967296 ^ B.length) hlo
    omega
  generalize hs : shl n 0 (lim nb) = s at *
  rcases List.eq_nil_or_concat s with rfl | ⟨s1, z, rfl⟩
  · simp at hlen
  rw [List.concat_eq_append] at *
  have hs1 : s1.length = B.length + 1 := by
    simp only [List.length_append,List.length_cons,List.length_nil] at hlen
    omega
  have hz : z = 0 := by
    rw [val_app] at hval
    simp only [val,Nat.mul_zero,Nat.add_zero] at hval
    rcases Nat.eq_zero_or_pos z with h | h
    · exact h
    · have h4 : 4294967296 ^ s1.length * 1 ≤ 4294967296 ^ s1.length * z := Nat.mul_le_mul_left _ h
      rw [hs1] at h4 hval
      omega
  subst hz
  rcases List.eq_nil_or_concat s1 with rfl | ⟨s2, v1, rfl⟩
  · simp at hs1
  rw [List.concat_eq_append] at *
  rcases List.eq_nil_or_concat s2 with rfl | ⟨vl, v0, rfl⟩
  · exfalso
    simp only [List.nil_append,List.length_cons,List.length_nil] at hs1
    omega
  rw [List.concat_eq_append] at *
  have e1 : vl ++ [v0] ++ [v1] = vl ++ [v0, v1] := by simp
  rw [e1] at hlm hval hs1 hs
  have hval2 : val (vl ++ [v0, v1]) = nb * 2 ^ n := by
    rw [← hval, val_app (vl ++ [v0, v1]) [0]]
    simp [val]
  have hlm2 : Lm (vl ++ [v0, v1]) := hlm.left
  refine ⟨B, t, n, vl, v0, v1, hB, ht, hnn.symm, by omega, ?_, by rw [hs1, hBlen], hlm2, hval2, ?_⟩
  · exact hs
  · have h5 : val (vl ++ [v0]) < 4294967296 ^ (vl ++ [v0]).length := val_lt (by rw [← e1] at hlm2; exact hlm2.left)
    rw [← e1, val_app] at hval2
    simp only [val,Nat.mul_zero,Nat.add_zero] at hval2
    have h6 : (vl ++ [v0]).length = B.length := by
      simp only [List.length_append,List.length_cons,List.length_nil] at hs1 ⊢
      omega
    rw [h6] at h5 hval2
    rcases Nat.lt_or_ge v1 2147483648 with h7 | h7
    · exfalso
      have h8 : 4294967296 ^ B.length * (v1 + 1) ≤ 4294967296 ^ B.length * 2147483648 := Nat.mul_le_mul_left _ h7
      rw [Nat.mul_add, Nat.mul_one] at h8
      omega
    · exact h7
end Fe
open Go Go.Proofs
namespace Fe

/-! ### One round of Knuth's -/
theorem take_all {v us : List Nat} {u g : Nat} (hl : us.length = v.length) (hv : Lm v) (hus : Lm us) (hu : u < 4294967296) (hg : g < 4294967296) :
    val (us ++ [u]) + 4294967296 ^ (v.length + 1) * bor32 u (takeL g 0 0 v us).2.1 (takeL g 0 0 v us).2.2 =
      val (takeL g 0 0 v us).1 + 4294967296 ^ v.length * sub32 u (takeL g 0 0 v us).2.1 (takeL g 0 0 v us).2.2 + g * val v ∧ val (takeL g 0 0 v us).1 < 4294967296 ^ v.length := by
  obtain ⟨h1, h2, h3, h4, h5⟩ := takeL_val g hg v us 0 0 hl hv hus (by decide) (by decide)
  have h6 := sub_bor (u := u) hu h4 h5
  have h7 := val_lt h2
  rw [h3] at h7
  refine ⟨?_, h7⟩
  rw [val_app, hl]
  simp only [val,Nat.mul_zero,Nat.add_zero] at *
  generalize takeL g 0 0 v us = t at *
  generalize bor32 u t.2.1 t.2.2 = bb at *
  generalize sub32 u t.2.1 t.2.2 = s at *
  have h8 := congrArg (4294967296 ^ v.length * ·) h6
  simp only [Nat.mul_add] at h8 h1
  rw [Nat.pow_succ, Nat.mul_assoc]
  generalize 4294967296 ^ v.length * (4294967296 * bb) = p1 at *
  generalize 4294967296 ^ v.length * u = p2 at *
  generalize 4294967296 ^ v.length * s = p3 at *
  generalize 4294967296 ^ v.length * t.2.1 = p4 at *
  generalize 4294967296 ^ v.length * t.2.2 = p5 at *
  omega

theorem round_ok {v us : List Nat} {u g V W : Nat} (hl : us.length = v.length) (hv : Lm v) (hus : Lm us) (hu : u < 4294967296) (hg : g < 4294967296)
    (hV : val v = V) (hW : val (us ++ [u]) = W) (hV0 : 0 < V) (h1 : W / V ≤ g) (h2 : g ≤ W / V + 1) :
    (bor32 u (takeL g 0 0 v us).2.1 (takeL g 0 0 v us).2.2 = 0 → g = W / V ∧ val (takeL g 0 0 v us).1 = W % V ∧ sub32 u (takeL g 0 0 v us).2.1 (takeL g 0 0 v us).2.2 = 0) ∧
    (bor32 u (takeL g 0 0 v us).2.1 (takeL g 0 0 v us).2.2 ≠ 0 → g = W / V + 1 ∧ (addL 0 v (takeL g 0 0 v us).1).2 = 1 ∧ sub32 u (takeL g 0 0 v us).2.1 (takeL g 0 0 v us).2.2 = 4294967295 ∧
      val (addL 0 v (takeL g 0 0 v us).1).1 = W % V) := by
  obtain ⟨e1, e2⟩ := take_all (g := g) hl hv hus hu hg
  obtain ⟨_, t2, t3, _, _⟩ := takeL_val g hg v us 0 0 hl hv hus (by decide) (by decide)
  obtain ⟨a1, a2, a3, a4⟩ := addL_val v (takeL g 0 0 v us).1 0 t3 hv t2 (by decide)
  have hs32 := sub32_lt u (takeL g 0 0 v us).2.1 (takeL g 0 0 v us).2.2
  have hb1 := bor_le u (takeL g 0 0 v us).2.1 (takeL g 0 0 v us).2.2
  have hVlt := val_lt hv
  have ha := val_lt a2
  rw [a3] at ha
  rw [hW, hV] at e1
  rw [hV] at a1 hVlt
  generalize takeL g 0 0 v us = t at *
  generalize sub32 u t.2.1 t.2.2 = s at *
  generalize bor32 u t.2.1 t.2.2 = bb at *
  generalize addL 0 v t.1 = ad at *
  have hdm := Nat.div_add_mod W V
  have hml := Nat.mod_lt W hV0
  rw [Nat.mul_comm] at hdm
  rw [Nat.pow_succ] at e1
  generalize hP : 4294967296 ^ v.length = P at *
  have hsz : ∀ s', P * s' < P → s' = 0 := by
    intro s' h
    rcases Nat.eq_zero_or_pos s' with h0 | h0
    · exact h0
    · have := Nat.mul_le_mul_left P (show 1 ≤ s' from h0)
      omega
  have hgc : g = W / V ∨ g = W / V + 1 := by omega
  generalize W / V = Q at *
  generalize W % V = R at *
  refine ⟨fun hb => ?_, fun hb => ?_⟩
  · rw [hb, Nat.mul_zero, Nat.add_zero] at e1
    have hq : g = Q := by
      rcases hgc with h | h
      · exact h
      · exfalso
        rw [h, Nat.add_mul, Nat.one_mul] at e1
        omega
    refine ⟨hq, ?_, ?_⟩
    · have hs0 : s = 0 := hsz s (by rw [hq] at e1; omega)
      rw [hs0, Nat.mul_zero, hq] at e1
      omega
    · exact hsz s (by rw [hq] at e1; omega)
  · have hb' : bb = 1 := by omega
    rw [hb', Nat.mul_one] at e1
    have hsP : P * s + P ≤ P * 4294967296 := by
      have := Nat.mul_le_mul_left P (show s + 1 ≤ 4294967296 from hs32)
      rw [Nat.mul_add, Nat.mul_one] at this
      exact this
    have hq : g = Q + 1 := by
      rcases hgc with h | h
      · exfalso
        rw [h] at e1
        omega
      · exact h
    rw [hq, Nat.add_mul, Nat.one_mul] at e1
    -- P * 2^32 + R = val t.1 + V + P * s
    have hc : ad.2 = 1 ∧ s = 4294967295 := by
      have h3 : P * (s + ad.2) = P * s + P * ad.2 := Nat.mul_add ..
      have h4 : ¬ (s + ad.2 ≤ 4294967295) := by
        intro h5
        have := Nat.mul_le_mul_left P h5
        have h6 : P * 4294967296 = P * 4294967295 + P := by rw [show 4294967296 = 4294967295 + 1 from rfl, Nat.mul_add, Nat.mul_one]
        omega
      omega
    refine ⟨hq, hc.1, hc.2, ?_⟩
    rw [hc.1, Nat.mul_one] at a1
    rw [hc.2] at e1
    have h6 : P * 4294967296 = P * 4294967295 + P := by rw [show 4294967296 = 4294967295 + 1 from rfl, Nat.mul_add, Nat.mul_one]
    omega
end Fe
open Go Go.Proofs
namespace Fe

theorem shr_lm (n : Nat) : ∀ l : List Nat, Lm (shr n l)
  | [] => fun x hx => by simp [shr] at hx
  | x :: r => by
    intro z hz
    simp only [shr,List.mem_cons] at hz
    rcases hz with rfl | hz
    · exact Nat.mod_lt _ (by decide)
    · exact shr_lm n r z hz
theorem val_head (r : List Nat) : ∃ k, val r = r.headD 0 + 4294967296 * k := by
  cases r with
  | nil => exact ⟨0, rfl⟩
  | cons x r => exact ⟨val r, rfl⟩
theorem shr_val (n : Nat) (hn : n ≤ 31) : ∀ {l : List Nat}, Lm l → val (shr n l) = val l / 2 ^ n
  | [], _ => by simp [shr, val]
  | x :: r, h => by
    have ih := shr_val n hn h.tail
    have hx := h.head
    obtain ⟨k, hk⟩ := val_head r
    simp only [shr,val]
    rw [ih]
    generalize hd : r.headD 0 = y at *
    rw [hk]
    have hp : 0 < 2 ^ n := Nat.two_pow_pos n
    obtain ⟨m, hm⟩ : ∃ m, (4294967296 : Nat) = 2 ^ n * m := ⟨2 ^ (32 - n), by rw [← Nat.pow_add, show n + (32 - n) = 32 by omega]⟩
    have e1 : (y + 4294967296 * k) / 2 ^ n = y / 2 ^ n + m * k := by
      rw [hm, Nat.mul_assoc, Nat.add_mul_div_left _ _ hp]
    have e2 : (x + 4294967296 * (y + 4294967296 * k)) / 2 ^ n = (x + 4294967296 * y) / 2 ^ n + m * (4294967296 * k) := by
      have : x + 4294967296 * (y + 4294967296 * k) = x + 4294967296 * y + 2 ^ n * (m * (4294967296 * k)) := by
        rw [← Nat.mul_assoc (2 ^ n), ← hm]; omega
      rw [this, Nat.add_mul_div_left _ _ hp]
    have e3 : (x + 4294967296 * y) / 2 ^ n / 4294967296 = y / 2 ^ n := by
      have e6 : (x + 4294967296 * y) / 2 ^ n / 4294967296 = (x + 4294967296 * y) / 4294967296 / 2 ^ n := by
        rw [Nat.div_div_eq_div_mul, Nat.div_div_eq_div_mul, Nat.mul_comm (2 ^ n)]
      have e7 : (x + 4294967296 * y) / 4294967296 = y := by omega
      rw [e6, e7]
    rw [e1, e2]
    have e4 := Nat.div_add_mod ((x + 4294967296 * y) / 2 ^ n) 4294967296
    rw [e3] at e4
    have e5 : m * (4294967296 * k) = 4294967296 * (m * k) := Nat.mul_left_comm ..
    rw [e5, Nat.mul_add]
    omega

/-- At the end: quotient and remainder. -/
theorem div_end {na nb n D R : Nat} (hnb : 0 < nb) (h : R + nb * 2 ^ n * D = na * 2 ^ n) (hR : R < nb * 2 ^ n) : D = na / nb ∧ R / 2 ^ n = na % nb := by
  have hp : 0 < 2 ^ n := Nat.two_pow_pos n
  have h1 : na / nb = D := by
    have e1 : na * 2 ^ n / (nb * 2 ^ n) = na / nb := Nat.mul_div_mul_right _ _ hp
    rw [← e1, ← h, Nat.add_mul_div_left _ _ (Nat.mul_pos hnb hp), Nat.div_eq_of_lt hR, Nat.zero_add]
  have h2 : na * 2 ^ n % (nb * 2 ^ n) = R := by
    rw [← h, Nat.add_mul_mod_self_left, Nat.mod_eq_of_lt hR]
  rw [Nat.mul_mod_mul_right] at h2
  refine ⟨h1.symm, ?_⟩
  rw [← h2, Nat.mul_div_cancel _ hp]

/-- At the start: what lies above the first digit is less than the divisor. -/
theorem div_start {na nb n la K : Nat} {U : List Nat} (hU : val U = na * 2 ^ n) (hUm : Lm U) (hl : U.length = la + 1) (hna : na < 4294967296 ^ la) (hK : K ≤ la) (hK1 : 1 ≤ K) (hn : n ≤ 31)
    (hv : 4294967296 ^ (K - 1) * 2147483648 ≤ nb * 2 ^ n) : val (U.drop (la - K + 1)) < nb * 2 ^ n := by
  have h1 : val (U.take (la - K + 1)) + 4294967296 ^ (U.take (la - K + 1)).length * val (U.drop (la - K + 1)) = val U := by
    rw [← val_app, List.take_append_drop]
  have h2 : (U.take (la - K + 1)).length = la - K + 1 := by simp; omega
  rw [h2, hU] at h1
  have h3 : na * 2 ^ n < 4294967296 ^ la * 2 ^ n := Nat.mul_lt_mul_of_pos_right hna (Nat.two_pow_pos n)
  have h4 : 4294967296 ^ la * 2 ^ n ≤ 4294967296 ^ la * 2147483648 := Nat.mul_le_mul_left _ (Nat.pow_le_pow_right (by decide) hn : 2 ^ n ≤ 2 ^ 31)
  have e : (4294967296 : Nat) ^ la = 4294967296 ^ (la - K + 1) * 4294967296 ^ (K - 1) := by rw [← Nat.pow_add]; congr 1; omega
  have h5 : 4294967296 ^ (la - K + 1) * val (U.drop (la - K + 1)) < 4294967296 ^ (la - K + 1) * (4294967296 ^ (K - 1) * 2147483648) := by
    rw [← Nat.mul_assoc, ← e]; omega
  have := Nat.lt_of_mul_lt_mul_left h5
  omega
end Fe
open Go Go.Proofs
namespace Fe

theorem val_three (l : List Nat) (a b c : Nat) : val (l ++ [a, b, c]) = ((c * 4294967296 + b) * 4294967296 + a) * 4294967296 ^ l.length + val l := by
  rw [val_app]
  simp only [val,Nat.mul_zero,Nat.add_zero]
  rw [Nat.mul_comm (4294967296 ^ l.length), Nat.add_comm]
  congr 2
  omega
theorem val_two (l : List Nat) (a b : Nat) : val (l ++ [a, b]) = (b * 4294967296 + a) * 4294967296 ^ l.length + val l := by
  rw [val_app]
  simp only [val,Nat.mul_zero,Nat.add_zero]
  rw [Nat.mul_comm (4294967296 ^ l.length), Nat.add_comm]
  congr 2
  omega

/-- The guess is right, or one too great. -/
theorem guess_window {us vl : List Nat} {u2 u1 u0 v1 v0 : Nat} (hl : us.length = vl.length) (hus : Lm us) (hvl : Lm vl) (h0 : u0 < 4294967296) (h1 : u1 < 4294967296) (hv0 : v0 < 4294967296) (hv1 : 2147483648 ≤ v1)
    (hW : val (us ++ [u0, u1, u2]) < 4294967296 * val (vl ++ [v0, v1])) :
    val (us ++ [u0, u1, u2]) / val (vl ++ [v0, v1]) ≤ guess u2 u1 u0 v1 v0 ∧ guess u2 u1 u0 v1 v0 ≤ val (us ++ [u0, u1, u2]) / val (vl ++ [v0, v1]) + 1 ∧ u2 ≤ v1 := by
  have hvr := val_lt hvl
  have hwr := val_lt hus
  rw [hl] at hwr
  have hM : 0 < 4294967296 ^ vl.length := Nat.pow_pos (by decide)
  have e1 := val_three us u0 u1 u2
  have e2 := val_two vl v0 v1
  rw [hl] at e1
  obtain ⟨g1, g2⟩ := guess_ok hv1 hv0 hM hvr hwr h0 e2 e1 hW
  refine ⟨g1, g2, ?_⟩
  rcases Nat.lt_or_ge v1 u2 with h | h
  · exfalso
    rw [e1, e2] at hW
    generalize 4294967296 ^ vl.length = M at *
    have a1 : (v1 + 1) * 4294967296 ≤ u2 * 4294967296 + u1 := Nat.le_trans (Nat.mul_le_mul_right _ h) (Nat.le_add_right _ _)
    have a2 : (v1 + 1) * 4294967296 * 4294967296 ≤ (u2 * 4294967296 + u1) * 4294967296 + u0 := Nat.le_trans (Nat.mul_le_mul_right _ a1) (Nat.le_add_right _ _)
    have h3 := Nat.mul_le_mul_right M a2
    have a3 : v1 * 4294967296 + v0 + 1 ≤ (v1 + 1) * 4294967296 := by omega
    have h5 := Nat.mul_le_mul_right M a3
    rw [Nat.add_mul, Nat.one_mul] at h5
    have h4 : (v1 * 4294967296 + v0) * M + val vl ≤ (v1 + 1) * 4294967296 * M := Nat.le_trans (Nat.add_le_add_left (Nat.le_of_lt hvr) _) h5
    have h6 := Nat.mul_le_mul_left 4294967296 h4
    have e3 : 4294967296 * ((v1 + 1) * 4294967296 * M) = (v1 + 1) * 4294967296 * 4294967296 * M := by
      rw [← Nat.mul_assoc, Nat.mul_comm 4294967296]
    rw [e3] at h6
    exact Nat.lt_irrefl _ (Nat.lt_of_le_of_lt (Nat.le_add_right _ _) (Nat.lt_of_lt_of_le hW (Nat.le_trans h6 h3)))
  · exact h
theorem guess_lt (u2 u1 u0 v1 v0 : Nat) : guess u2 u1 u0 v1 v0 < 4294967296 := by
  have : ∀ k q rest, q ≤ 4294967295 → guessL v1 v0 u0 k q rest ≤ 4294967295 := by
    intro k
    induction k with
    | zero => intro q rest h; exact h
    | succ k ih =>
      intro q rest h
      simp only [guessL]
      split
      · exact ih _ _ (by omega)
      · exact h
  have := this 3 (min ((u2 * 4294967296 + u1) / v1) 4294967295) (u2 * 4294967296 + u1 - min ((u2 * 4294967296 + u1) / v1) 4294967295 * v1) (Nat.min_le_right _ _)
  simp only [guess]
  omega

/-- The invariant, one round on. -/
theorem inv_step {A r R D : List Nat} {x Vv W T : Nat} (hW : val (x :: R) = W) (hr : val r = W % Vv) (h : val (A ++ [x] ++ R) + 4294967296 ^ (A.length + 1) * (Vv * val D) = T) :
    val (A ++ r) + 4294967296 ^ A.length * (Vv * val (W / Vv :: D)) = T := by
  rw [← h, List.append_assoc, List.singleton_append, val_app, val_app, hW, hr, val]
  have e := Nat.div_add_mod W Vv
  rw [Nat.pow_succ, Nat.mul_assoc, Nat.add_assoc, Nat.add_assoc, ← Nat.mul_add, ← Nat.mul_add]
  congr 2
  rw [Nat.mul_add Vv, Nat.mul_left_comm Vv]
  omega
end Fe
open Go Go.Proofs
namespace Fe
def b37 : C :=
 (.seq
 (.region false [
 oQ 4 (.mov (.c (.sl true [] 0))),
 oQ 5 (.mov (.c (.sl true [] 0))),
 oQ 6 (.mov (.c (.bool false)))])
 (.seq
 (.region false [
 oQ 16 (.mov (.t 0)),
 ⟨some 17, .call false (.c (.fn 36 [] [])) [.t 16], none⟩,
 oQ 18 (.mov (.t 1)),
 ⟨some 19, .call false (.c (.fn 36 [] [])) [.t 18], none⟩,
 oQ 0 (.mov (.t 17)),
 oQ 1 (.mov (.t 19))])
 (.seq
 (.block 0
 (.seq
 (.region false [
 oQ 21 (.mov (.t 1)),
 oQ 22 (.len false (.t 21)),
 oQ 23 (.bin 0 .eql (.t 22) (.c (.int .i64 0))),
 oQ 20 (.mov (.t 23))])
 (.cond (.t 20)
 (.seq
 (.region false [
 oQ 4 (.mov (.c (.sl true [] 0))),
 oQ 5 (.mov (.c (.sl true [] 0))),
 oQ 6 (.mov (.c (.bool false)))])
 .ret)
 (.seq
 (.region false [
 oQ 25 (.mov (.t 1)),
 oQ 26 (.len false (.t 25)),
 oQ 27 (.bin 0 .eql (.t 26) (.c (.int .i64 1))),
 oQ 24 (.mov (.t 27))])
 (.cond (.t 24)
 (.seq
 (.region false [
 oQ 29 (.mov (.t 0)),
 oQ 30 (.mov (.t 1)),
 oQ 31 (.iaddr 1 (.t 30) (.c (.int .i64 0))),
 oQ 32 (.load false 1 (.t 31)),
 ⟨some 33, .call false (.c (.fn 33 [] [])) [.t 29, .t 32], none⟩,
 oQ 28 (.mov (.t 33)),
 oQ 34 (.extract (.t 28) 0),
 oQ 35 (.extract (.t 28) 1),
 oQ 4 (.mov (.t 34)),
 oQ 5 (.mov (.t 35))])
 (.seq
 (.region false [
 oQ 36 (.mov (.t 4)),
 oQ 37 (.mov (.t 5)),
 oQ 4 (.mov (.t 36)),
 oQ 5 (.mov (.t 37)),
 oQ 6 (.mov (.c (.bool true)))])
 .ret))
 (.seq
 (.region false [
 oQ 39 (.mov (.t 0)),
 oQ 40 (.len false (.t 39)),
 oQ 41 (.mov (.t 1)),
 oQ 42 (.len false (.t 41)),
 oQ 43 (.bin 0 .lss (.t 40) (.t 42)),
 oQ 38 (.mov (.t 43))])
 (.cond (.t 38)
 (.seq
 (.region false [
 oQ 44 (.mov (.t 0)),
 ⟨some 45, .call false (.c (.fn 32 [] [])) [.t 44], none⟩,
 oQ 4 (.mov (.c (.sl true [] 0))),
 oQ 5 (.mov (.t 45)),
 oQ 6 (.mov (.c (.bool true)))])
 .ret)
 .skip)))))))
 (.seq
 (.region false [
 oQ 46 (.mov (.t 1)),
 oQ 47 (.mov (.t 1)),
 oQ 48 (.len false (.t 47)),
 oQ 49 (.bin 0 .sub (.t 48) (.c (.int .i64 1))),
 oQ 50 (.iaddr 1 (.t 46) (.t 49)),
 oQ 51 (.load false 1 (.t 50)),
 ⟨some 52, .call false (.c (.fn 64 [] [])) [.t 51], none⟩,
 oQ 7 (.mov (.t 52))])
 (.seq
 (.region true [
 oQ 53 (.mov (.t 0)),
 oQ 54 (.mov (.t 7)),
 ⟨some 55, .call true (.c (.fn 65 [] [])) [.t 53, .t 54], none⟩,
 oQ 56 (.mov (.t 1)),
 oQ 57 (.mov (.t 7)),
 ⟨some 58, .call true (.c (.fn 65 [] [])) [.t 56, .t 57], none⟩,
 oQ 59 (.mov (.t 1)),
 oQ 60 (.len false (.t 59)),
 oQ 61 (.slice 1 (.t 58) none (some (.t 60)) none),
 oQ 8 (.mov (.t 55)),
 oQ 9 (.mov (.t 61))])
 (.seq
 (.region false [
 oQ 62 (.mov (.t 9)),
 oQ 63 (.len false (.t 62)),
 oQ 10 (.mov (.t 63))])
 (.seq
 (.region false [
 oQ 64 (.mov (.t 0)),
 oQ 65 (.len false (.t 64)),
 oQ 66 (.mov (.t 10)),
 oQ 67 (.bin 0 .sub (.t 65) (.t 66)),
 oQ 68 (.bin 0 .add (.t 67) (.c (.int .i64 1))),
 oQ 69 (.mkslice 1 4 [.int .u32 0] (.t 68) (.t 68)),
 oQ 4 (.mov (.t 69))])
 (.seq
 (.seq
 (.region false [
 oQ 70 (.mov (.t 0)),
 oQ 71 (.len false (.t 70)),
 oQ 72 (.mov (.t 10)),
 oQ 73 (.bin 0 .sub (.t 71) (.t 72)),
 oQ 11 (.mov (.t 73))])
 (.block 1
 (.loop
 (.seq
 (.seq
 (.region false [
 oQ 74 (.mov (.t 11)),
 oQ 75 (.bin 0 .geq (.t 74) (.c (.int .i64 0)))])
 (.cond (.t 75)
 .skip
 (.exit 1)))
 (.seq
 (.block 2
 (.seq
 (.region true [
 oQ 78 (.mov (.t 8)),
 oQ 79 (.mov (.t 11)),
 oQ 80 (.mov (.t 10)),
 oQ 81 (.bin 0 .add (.t 79) (.t 80)),
 oQ 82 (.iaddr 1 (.t 78) (.t 81)),
 oQ 83 (.load false 1 (.t 82)),
 oQ 84 (.mov (.t 8)),
 oQ 85 (.mov (.t 11)),
 oQ 86 (.mov (.t 10)),
 oQ 87 (.bin 0 .add (.t 85) (.t 86)),
 oQ 88 (.bin 0 .sub (.t 87) (.c (.int .i64 1))),
 oQ 89 (.iaddr 1 (.t 84) (.t 88)),
 oQ 90 (.load false 1 (.t 89)),
 oQ 91 (.mov (.t 8)),
 oQ 92 (.mov (.t 11)),
 oQ 93 (.mov (.t 10)),
 oQ 94 (.bin 0 .add (.t 92) (.t 93)),
 oQ 95 (.bin 0 .sub (.t 94) (.c (.int .i64 2))),
 oQ 96 (.iaddr 1 (.t 91) (.t 95)),
 oQ 97 (.load false 1 (.t 96)),
 oQ 98 (.mov (.t 9)),
 oQ 99 (.mov (.t 10)),
 oQ 100 (.bin 0 .sub (.t 99) (.c (.int .i64 1))),
 oQ 101 (.iaddr 1 (.t 98) (.t 100)),
 oQ 102 (.load false 1 (.t 101)),
 oQ 103 (.mov (.t 9)),
 oQ 104 (.mov (.t 10)),
 oQ 105 (.bin 0 .sub (.t 104) (.c (.int .i64 2))),
 oQ 106 (.iaddr 1 (.t 103) (.t 105)),
 oQ 107 (.load false 1 (.t 106)),
 ⟨some 108, .call false (.c (.fn 66 [] [])) [.t 83, .t 90, .t 97, .t 102, .t 107], none⟩,
 oQ 12 (.mov (.t 108))])
 (.seq
 (.seq
 (.region false [
 oQ 109 (.mov (.t 8)),
 oQ 110 (.mov (.t 9)),
 oQ 111 (.mov (.t 12)),
 oQ 112 (.mov (.t 11)),
 ⟨some 113, .call false (.c (.fn 67 [] [])) [.t 109, .t 110, .t 111, .t 112], none⟩,
 oQ 114 (.bin 0 .gtr (.t 113) (.c (.int .u32 0)))])
 (.cond (.t 114)
 (.seq
 (.region false [
 oQ 115 (.mov (.t 12)),
 oQ 116 (.bin 0 .sub (.t 115) (.c (.int .u64 1))),
 oQ 12 (.mov (.t 116))])
 (.seq
 (.region false [
 oQ 13 (.mov (.c (.int .u32 0)))])
 (.seq
 (.seq
 (.region false [
 oQ 117 (.mov (.t 9)),
 oQ 118 (.len false (.t 117)),
 oQ 119 (.mov (.c (.int .i64 0)))])
 (.block 3
 (.loop
 (.seq
 (.region false [
 oQ 120 (.bin 0 .lss (.t 119) (.t 118))])
 (.seq
 (.cond (.t 120)
 .skip
 (.exit 3))
 (.seq
 (.block 4
 (.seq
 (.region false [
 oQ 121 (.mov (.t 119)),
 oQ 122 (.iaddr 1 (.t 117) (.t 119)),
 oQ 123 (.load false 1 (.t 122)),
 oQ 14 (.mov (.t 121)),
 oQ 15 (.mov (.t 123))])
 (.region false [
 oQ 125 (.mov (.t 8)),
 oQ 126 (.mov (.t 11)),
 oQ 127 (.mov (.t 14)),
 oQ 128 (.bin 0 .add (.t 126) (.t 127)),
 oQ 129 (.mov (.t 8)),
 oQ 130 (.mov (.t 11)),
 oQ 131 (.mov (.t 14)),
 oQ 132 (.bin 0 .add (.t 130) (.t 131)),
 oQ 133 (.iaddr 1 (.t 129) (.t 132)),
 oQ 134 (.load false 1 (.t 133)),
 oQ 135 (.mov (.t 15)),
 oQ 136 (.mov (.t 13)),
 ⟨some 137, .call false (.c (.fn 68 [] [])) [.t 134, .t 135, .t 136], none⟩,
 oQ 124 (.mov (.t 137)),
 oQ 138 (.extract (.t 124) 0),
 oQ 139 (.extract (.t 124) 1),
 oQ 140 (.iaddr 1 (.t 125) (.t 128)),
 ⟨none, .op (.store 1 (.t 140) (.t 138)), none⟩,
 oQ 13 (.mov (.t 139))])))
 (.region false [
 oQ 141 (.bin 0 .add (.t 119) (.c (.int .i64 1))),
 oQ 119 (.mov (.t 141))])))))))
 (.region false [
 oQ 142 (.mov (.t 8)),
 oQ 143 (.mov (.t 11)),
 oQ 144 (.mov (.t 10)),
 oQ 145 (.bin 0 .add (.t 143) (.t 144)),
 oQ 146 (.iaddr 1 (.t 142) (.t 145)),
 oQ 147 (.load false 1 (.t 146)),
 oQ 148 (.mov (.t 13)),
 oQ 149 (.bin 0 .add (.t 147) (.t 148)),
 oQ 150 (.iaddr 1 (.t 142) (.t 145)),
 ⟨none, .op (.store 1 (.t 150) (.t 149)), none⟩]))))
 .skip))
 (.region false [
 oQ 151 (.mov (.t 4)),
 oQ 152 (.mov (.t 11)),
 oQ 153 (.mov (.t 12)),
 oQ 154 (.conv (.int .u32) (.t 153)),
 oQ 155 (.iaddr 1 (.t 151) (.t 152)),
 ⟨none, .op (.store 1 (.t 155) (.t 154)), none⟩]))))
 (.region false [
 oQ 76 (.mov (.t 11)),
 oQ 77 (.bin 0 .sub (.t 76) (.c (.int .i64 1))),
 oQ 11 (.mov (.t 77))]))))))
 (.seq
 (.region true [
 oQ 156 (.mov (.t 4)),
 ⟨some 157, .call true (.c (.fn 36 [] [])) [.t 156], none⟩,
 oQ 158 (.mov (.t 8)),
 oQ 159 (.mov (.t 10)),
 oQ 160 (.slice 1 (.t 158) none (some (.t 159)) none),
 oQ 161 (.mov (.t 7)),
 ⟨some 162, .call false (.c (.fn 69 [] [])) [.t 160, .t 161], none⟩,
 oQ 4 (.mov (.t 157)),
 oQ 5 (.mov (.t 162)),
 oQ 6 (.mov (.c (.bool true)))])
 .ret)))))))))
def c37 : CF := ⟨163, 2, [.mov (.t 4), .mov (.t 5), .mov (.t 6)], b37⟩
theorem s37 : stripF Go.Proofs.Try.prog 37 = some c37 := by kernel_rfl

theorem lim_low {n : Nat} (h : n ≠ 0) : 4294967296 ^ ((lim n).length - 1) ≤ n := by
  induction n using Nat.strongRecOn with
  | _ n ih =>
    rw [lim_pos h, List.length_cons, Nat.add_sub_cancel]
    by_cases h0 : n / 4294967296 = 0
    · rw [h0, lim_zero]; simp; omega
    · have h1 := ih (n / 4294967296) (by omega) h0
      have h2 : (lim (n / 4294967296)).length ≠ 0 := by
        intro hh
        exact h0 (lim_eq_nil.1 (List.length_eq_zero_iff.1 hh))
      obtain ⟨k, hk⟩ : ∃ k, (lim (n / 4294967296)).length = k + 1 := ⟨(lim (n / 4294967296)).length - 1, by omega⟩
      rw [hk, Nat.add_sub_cancel] at h1
      rw [hk, Nat.pow_succ]
      have := Nat.mul_le_mul_right 4294967296 h1
      omega
theorem lim_lt {a b : Nat} (h : (lim a).length < (lim b).length) : a < b := by
  have hb : b ≠ 0 := by
    rintro rfl
    rw [lim_zero] at h; simp at h
  have h1 := lim_low hb
  have h2 := val_lt (lim_lm a)
  rw [lim_val] at h2
  have h3 : 4294967296 ^ (lim a).length ≤ 4294967296 ^ ((lim b).length - 1) := Nat.pow_le_pow_right (by decide) (by omega)
  omega

theorem sdiv_val (d : Nat) (hd : 0 < d) : ∀ l : List Nat, val (sdiv d l).1 * d + (sdiv d l).2 = val l
  | [] => by simp [sdiv, val]
  | x :: r => by
    have ih := sdiv_val d hd r
    simp only [sdiv,val]
    have h := Nat.div_add_mod ((sdiv d r).2 * 4294967296 + x) d
    rw [Nat.add_mul, Nat.mul_assoc, ← ih, Nat.mul_comm (((sdiv d r).2 * 4294967296 + x) / d) d]
    generalize d * (((sdiv d r).2 * 4294967296 + x) / d) = p1 at *
    generalize ((sdiv d r).2 * 4294967296 + x) % d = p2 at *
    generalize val (sdiv d r).1 * d = p3 at *
    omega
theorem sdiv_lm (d : Nat) (hd : 0 < d) : ∀ l : List Nat, Lm l → Lm (sdiv d l).1
  | [], _ => fun x hx => by simp [sdiv] at hx
  | x :: r, h => by
    intro z hz
    simp only [sdiv,List.mem_cons] at hz
    rcases hz with rfl | hz
    · rw [Nat.div_lt_iff_lt_mul hd]
      have h1 := sdiv_lt d hd r
      have h2 := h.head
      have h3 : ((sdiv d r).2 + 1) * 4294967296 ≤ d * 4294967296 := Nat.mul_le_mul_right _ h1
      rw [Nat.mul_comm 4294967296 d]
      omega
    · exact sdiv_lm d hd r h.tail z hz

/-- By one limb, in numbers. -/
theorem small33 (ex : Bool) (a : List Nat) (d : Nat) (hd : 0 < d) (hd2 : d < 4294967296) (ha : Lm a) (hl : a.length ≤ 1100000) :
    Good Go.Proofs.Try.prog 33 [nsl ex a, limb d] (.tup [nf (lim (val a / d)), nf (lim (val a % d))]) := by
  have h := good33 ex a d hd hd2 ha hl
  have hv : val (cut a) = val a := by rw [cut_lim ha, lim_val]
  have h1 := sdiv_val d hd (cut a)
  have h2 := sdiv_lt d hd (cut a)
  rw [hv] at h1
  have e1 : val (sdiv d (cut a)).1 = val a / d := by
    rw [← h1, Nat.add_comm, Nat.add_mul_div_right _ _ hd, Nat.div_eq_of_lt h2, Nat.zero_add]
  have e2 : (sdiv d (cut a)).2 = val a % d := by
    rw [← h1, Nat.add_comm, Nat.add_mul_mod_self_right, Nat.mod_eq_of_lt h2]
  rw [cut_lim (sdiv_lm d hd _ (cut_lm ha)), e1, cut_lim (l := [(sdiv d (cut a)).2, 0]) (by
    intro x hx
    simp at hx
    rcases hx with rfl | rfl
    · omega
    · omega)] at h
  simp only [val,Nat.mul_zero,Nat.add_zero] at h
  rw [e2] at h
  exact h

/-- What DivMod hands back. -/
def divR (a b : Nat) : V := if b = 0 then .tup [nf [], nf [], .bool false] else .tup [nf (lim (a / b)), nf (lim (a % b)), .bool true]

theorem lend_second {L D : List Nat} {n : Nat} (h : D.length = n) : lend 1 [.cells 0 1 true (nl L), .cells 0 1 true (nl D)] [.view 1 0 0 n] = ([.cells 0 1 true (nl L), .cells 0 1 false (nl D)], [nf D]) := by
  subst h
  have : (nl D).take D.length = nl D := by rw [← nl_len D, List.take_length]
  simp [lend1, refsL, V.refs, freezeL, HObj.freeze, borL, bor, this, nf, nsl, List.modify]
theorem lend_first {R Z D : List Nat} {n : Nat} (h : R.length = n) (own : Bool) (x : Int) (k : IntKind) : lend 1 [.cells 0 1 true (nl (R ++ Z)), .cells 0 1 own (nl D)] [.view 0 0 0 n, .int k x] = ([.cells 0 1 false (nl (R ++ Z)), .cells 0 1 own (nl D)], [nf R, .int k x]) := by
  subst h
  have : (nl (R ++ Z)).take R.length = nl R := by rw [nl_app, ← nl_len R, List.take_left]
  simp [lend1, refsL, V.refs, freezeL, HObj.freeze, borL, bor, this, nf, nsl, List.modify]

set_option maxHeartbeats 8000000 in
theorem good37 (exa exb : Bool) (a b : List Nat) (ha : Lm a) (hb : Lm b) (hla : a.length ≤ 100000) (hlb : b.length ≤ 100000) : Good Go.Proofs.Try.prog 37 [nsl exa a, nsl exb b] (divR (val a) (val b)) := by
  refine good_go mix s37 (Nat.le_of_ble_eq_true rfl) fun e he => ?_
  have e0 : e 0 = nsl exa a := he 0
  have e1 : e 1 = nsl exb b := he 1
  clear he
  simp only [c37,b37, oQ]
  have hca := cut_len a
  have hcb := cut_len b
  have hva := cut_lim ha
  have hvb := cut_lim hb
  simp -implicitDefEqProofs (disch := omega) only [↓ZD,ZP,cnd_t,cnd_f,↓reduceIte,Env.put,stepO,lenV,binV,binInt,unV,loadV,sliceV,boundOf,convV,slstrV,if_pos,if_neg,Int.reduceToNat,Nat.reducePow,V.cells,V.isCell,V.boxable,Nat.reduceEqDiff,reduceCtorEq,reduceIte,ite_self,enterEnv,e0,e1]
  refine calP_ro (nl_ro_1 _ _) (good36 exa a (by omega)) (nsl_ro _ _) ?_
  simp -implicitDefEqProofs (disch := omega) only [↓ZD,ZP,cnd_t,cnd_f,↓reduceIte,Env.put,stepO,lenV,binV,binInt,unV,loadV,sliceV,boundOf,convV,slstrV,if_pos,if_neg,Int.reduceToNat,Nat.reducePow,V.cells,V.isCell,V.boxable,Nat.reduceEqDiff,reduceCtorEq,reduceIte,ite_self,enterEnv,e0,e1]
  refine calP_ro (nl_ro_1 _ _) (good36 exb b (by omega)) (nsl_ro _ _) ?_
  generalize (exa || decide ((cut a).length < a.length)) = xa
  generalize (exb || decide ((cut b).length < b.length)) = xb
  rw [hva, hvb]
  generalize val a = na at *
  generalize val b = nb at *
  rw [hva] at hca
  rw [hvb] at hcb
  by_cases h0 : nb = 0
  · subst h0
    rw [lim_zero]
    simp -implicitDefEqProofs (disch := omega) only [↓ZD,ZP,cnd_t,cnd_f,↓reduceIte,Env.put,stepO,lenV,binV,binInt,unV,loadV,sliceV,boundOf,convV,slstrV,if_pos,if_neg,Int.reduceToNat,Nat.reducePow,V.cells,V.isCell,V.boxable,Nat.reduceEqDiff,reduceCtorEq,reduceIte,ite_self,enterEnv,nsl,nl_nil]
    exact gives_eq rfl rfl
  · have hne : (lim nb).length ≠ 0 := fun h => h0 (lim_eq_nil.1 (List.length_eq_zero_iff.1 h))
    simp only [divR,if_neg h0]
    by_cases h1 : (lim nb).length = 1
    · have hd : lim nb = [nb] := by
        rw [lim_pos h0] at h1 ⊢
        simp only [List.length_cons] at h1
        have : lim (nb / 4294967296) = [] := List.length_eq_zero_iff.1 (by omega)
        rw [this]
        have := lim_eq_nil.1 this
        congr 1
        omega
      have hnb : nb < 4294967296 := lim_lm nb nb (by rw [hd]; simp)
      have hs := small33 xa (lim na) nb (by omega) hnb (lim_lm na) (by omega)
      rw [lim_val] at hs
      rw [hd]
      simp -implicitDefEqProofs (disch := omega) only [↓ZD,ZP,cnd_t,cnd_f,↓reduceIte,Env.put,stepO,lenV,binV,binInt,unV,loadV,sliceV,boundOf,convV,slstrV,if_pos,if_neg,Int.reduceToNat,Nat.reducePow,V.cells,V.isCell,V.boxable,Nat.reduceEqDiff,reduceCtorEq,reduceIte,ite_self,enterEnv,nsl,nl_cons,nl_nil]
      refine calP_ro ?_ hs ?_ ?_
      · show roL [nsl xa (lim na), limb nb] = true
        simp only [roL,nsl_ro]; rfl
      · simp only [V.ro,roL,nf_ro]; rfl
      · simp -implicitDefEqProofs (disch := omega) only [↓ZD,ZP,cnd_t,cnd_f,↓reduceIte,Env.put,stepO,lenV,binV,binInt,unV,loadV,sliceV,boundOf,convV,slstrV,if_pos,if_neg,Int.reduceToNat,Nat.reducePow,V.cells,V.isCell,V.boxable,Nat.reduceEqDiff,reduceCtorEq,reduceIte,ite_self,enterEnv]
        refine gives_eq ?_ rfl
        simp only [V.ro,roL,nf_ro]; rfl
    · by_cases h2 : (lim na).length < (lim nb).length
      · have ht := trim32 xa (lim na) (by omega)
        rw [cut_lim (lim_lm na), lim_val] at ht
        simp -implicitDefEqProofs (disch := omega) only [↓ZD,ZP,cnd_t,cnd_f,↓reduceIte,Env.put,stepO,lenV,binV,binInt,unV,loadV,sliceV,boundOf,convV,slstrV,if_pos,if_neg,Int.reduceToNat,Nat.reducePow,V.cells,V.isCell,V.boxable,Nat.reduceEqDiff,reduceCtorEq,reduceIte,ite_self,enterEnv,nsl]
        refine calP_ro (nl_ro_1 xa (lim na)) ht (nf_ro _) ?_
        simp -implicitDefEqProofs (disch := omega) only [↓ZD,ZP,cnd_t,cnd_f,↓reduceIte,Env.put,stepO,lenV,binV,binInt,unV,loadV,sliceV,boundOf,convV,slstrV,if_pos,if_neg,Int.reduceToNat,Nat.reducePow,V.cells,V.isCell,V.boxable,Nat.reduceEqDiff,reduceCtorEq,reduceIte,ite_self,enterEnv,nsl]
        have hlt := lim_lt h2
        rw [Nat.div_eq_of_lt hlt, Nat.mod_eq_of_lt hlt, lim_zero]
        refine gives_eq ?_ rfl
        simp only [V.ro,roL,nf_ro]; rfl
      · obtain ⟨B, t, n, vl, v0, v1, hB, ht, hn, hn31, hsh, hvlen, hvlm, hvval, hv1⟩ := norm h0 (by omega)
        have hBl : (lim nb).length = B.length + 1 := by rw [hB]; simp
        have gt : (nl (lim nb))[((lim nb).length - 1 : Int).toNat]? = some (limb t) := by
          rw [show ((lim nb).length - 1 : Int).toNat = B.length by omega, hB]
          exact nl_at B [] t rfl
        have hgl := good64 t ht
        rw [← hn] at hgl
        have hsa := good65 xa (lim na) n hn31 (lim_lm na) (by omega)
        have hsb := shl65 xb (lim nb) n hn31 (lim_lm nb) (by omega)
        rw [hsh] at hsb
        generalize hv : vl ++ [v0, v1] = v at *
        simp -implicitDefEqProofs (disch := omega) only [↓ZD,ZP,cnd_t,cnd_f,↓reduceIte,Env.put,stepO,lenV,binV,binInt,unV,loadV,sliceV,boundOf,convV,slstrV,if_pos,if_neg,Int.reduceToNat,Nat.reducePow,V.cells,V.isCell,V.boxable,Nat.reduceEqDiff,reduceCtorEq,reduceIte,ite_self,enterEnv,nsl,gt]
        refine calP_ro rfl hgl rfl ?_
        simp -implicitDefEqProofs (disch := omega) only [↓ZD,ZP,cnd_t,cnd_f,↓reduceIte,Env.put,stepO,lenV,binV,binInt,unV,loadV,sliceV,boundOf,convV,slstrV,if_pos,if_neg,Int.reduceToNat,Nat.reducePow,V.cells,V.isCell,V.boxable,Nat.reduceEqDiff,reduceCtorEq,reduceIte,ite_self,enterEnv,nsl]
        refine calD_lend 0 lend0 (by show roL [nsl xa (lim na), .int .i64 n] = true; simp only [roL,nsl_ro]; rfl) hsa ?_
        simp -implicitDefEqProofs (disch := omega) only [↓ZD,ZP,cnd_t,cnd_f,↓reduceIte,Env.put,stepO,lenV,binV,binInt,unV,loadV,sliceV,boundOf,convV,slstrV,if_pos,if_neg,Int.reduceToNat,Nat.reducePow,V.cells,V.isCell,V.boxable,Nat.reduceEqDiff,reduceCtorEq,reduceIte,ite_self,enterEnv,adopt,adopt1,lend0]
        refine calD_lr 0 lend0 (by show roL [nsl xb (lim nb), .int .i64 n] = true; simp only [roL,nsl_ro]; rfl) hsb (nf_ro _) fun H'' hH => ?_
        have hH2 : H'' = [.cells 0 1 true (nl (shl n 0 (lim na)))] := by rcases hH with h | h <;> exact h
        subst hH2
        have ek : ((lim nb).length - (0 : Nat) : Int).toNat = v.length := by omega
        have etk : (nl v ++ nl [0]).take v.length = nl v := by rw [← nl_len v, List.take_left]
        have hUl := shl_len n 0 (lim na)
        have hUv := shl_val n 0 (lim na)
        have hUm := shl_lm n hn31 0 (lim na) (Nat.two_pow_pos n) (lim_lm na)
        rw [lim_val, Nat.add_zero] at hUv
        generalize shl n 0 (lim na) = U at *
        have edq : ((lim na).length : Int) - (v.length : Int) + 1 = (((lim na).length - v.length + 1 : Nat) : Int) := by omega
        have hK : v.length ≤ (lim na).length := by omega
        have hK2 : 2 ≤ v.length := by omega
        have hdn : 4294967296 ^ (v.length - 1) * 2147483648 ≤ nb * 2 ^ n := by
          rw [← hvval, ← hv, show vl ++ [v0, v1] = (vl ++ [v0]) ++ [v1] by simp, val_app]
          have : (vl ++ [v0]).length = v.length - 1 := by rw [← hv]; simp
          rw [List.append_assoc, List.singleton_append, hv, this]
          have := Nat.mul_le_mul_left (4294967296 ^ (v.length - 1)) hv1
          simp only [val,Nat.mul_zero,Nat.add_zero]
          omega
        have hnal : na < 4294967296 ^ (lim na).length := by have := val_lt (lim_lm na); rw [lim_val] at this; exact this
        have hst := div_start hUv hUm hUl hnal hK (by omega) hn31 hdn
        simp -implicitDefEqProofs (disch := omega) only [↓ZD,ZP,cnd_t,cnd_f,↓reduceIte,Env.put,stepO,lenV,binV,binInt,unV,loadV,sliceV,boundOf,convV,slstrV,if_pos,if_neg,Int.reduceToNat,Nat.reducePow,V.cells,V.isCell,V.boxable,Nat.reduceEqDiff,reduceCtorEq,reduceIte,ite_self,enterEnv,nf,nsl,nl_app,nl_len,ek,etk,List.drop_zero,edq,mk_zeros]
        refine go_loop (fun m e H => ∃ A R Z D : List Nat, m = A.length ∧ e 7 = .int .i64 n ∧ e 8 = .view 0 0 0 ((lim na).length + 1) ∧ e 9 = .sl false (nl v) v.length ∧ e 10 = .int .i64 v.length ∧ e 11 = .int .i64 ((A.length : Int) - 1) ∧
          e 4 = .view 1 0 0 ((lim na).length - v.length + 1) ∧ H = [.cells 0 1 true (nl (A ++ R ++ Z)), .cells 0 1 true (nl (List.replicate A.length 0 ++ D))] ∧ Lm (A ++ R ++ Z) ∧ R.length = v.length ∧ A.length + R.length + Z.length = (lim na).length + 1 ∧
          A.length + D.length = (lim na).length - v.length + 1 ∧ Lm D ∧ val R < nb * 2 ^ n ∧ val (A ++ R) + 4294967296 ^ A.length * (nb * 2 ^ n * val D) = na * 2 ^ n) ((lim na).length - v.length + 1)
          ⟨U.take ((lim na).length - v.length + 1), U.drop ((lim na).length - v.length + 1), [], [], ?_, ?_, ?_, ?_, ?_, ?_, ?_, ?_, ?_, ?_, ?_, ?_, ?_, hst, ?_⟩ ?_
        · simp; omega
        · simp [Env.set]
        · simp [Env.set]
        · simp [Env.set]
        · simp [Env.set, hvlen]
        · simp [Env.set]; omega
        · simp [Env.set]
        · rw [List.append_nil, List.append_nil, List.take_append_drop]
          congr 4
          simp; omega
        · rw [List.append_nil, List.take_append_drop]; exact hUm
        · simp; omega
        · simp; omega
        · simp; omega
        · intro x hx; simp at hx
        · rw [List.take_append_drop, hUv]; simp [val]
        rintro m e H ⟨A, R, Z, D, rfl, h7, h8, h9, h10, h11, h4, rfl, hlm, hRl, hAl, hDl, hDm, hR, hinv⟩
        rcases List.eq_nil_or_concat A with rfl | ⟨A, x, rfl⟩
        · simp only [List.length_nil,List.nil_append,List.replicate_zero,Nat.pow_zero,Nat.one_mul,Nat.zero_add] at *
          obtain ⟨f1, f2⟩ := div_end (by omega : 0 < nb) hinv hR
          have hlR := lend_first (R := R) (Z := Z) (D := D) (n := v.length) hRl
          have hgq := good36 false D (by omega)
          have ev0 : ((v.length : Int) - ((0 : Nat) : Int)).toNat = v.length := by omega
          have hgr := good69 false R n hn31 hlm.left (by omega)
          rw [cut_lim (shr_lm n R), shr_val n hn31 hlm.left, f2] at hgr
          rw [cut_lim hDm, f1] at hgq
          simp -implicitDefEqProofs (disch := omega) only [↓ZD,ZP,cnd_t,cnd_f,↓reduceIte,Env.put,stepO,lenV,binV,binInt,unV,loadV,sliceV,boundOf,convV,slstrV,if_pos,if_neg,Int.reduceToNat,Nat.reducePow,V.cells,V.isCell,V.boxable,Nat.reduceEqDiff,reduceCtorEq,reduceIte,ite_self,enterEnv,h7,h8,h9,h10,h11,h4]
          refine calD_lr 1 (lend_second (L := R ++ Z) hDl) (nl_ro_1 _ _) hgq (nsl_ro _ _) fun H'' hH'' => ?_
          rcases hH'' with rfl | rfl
          · simp -implicitDefEqProofs (disch := omega) only [↓ZD,ZP,cnd_t,cnd_f,↓reduceIte,Env.put,stepO,lenV,binV,binInt,unV,loadV,sliceV,boundOf,convV,slstrV,if_pos,if_neg,Int.reduceToNat,Nat.reducePow,V.cells,V.isCell,V.boxable,Nat.reduceEqDiff,reduceCtorEq,reduceIte,ite_self,enterEnv,h7,h8,h9,h10,h11,h4,genOf,eszOf,HObj.gen,HObj.esz,Option.getD_some,ev0]
            refine calP_lr 1 (hlR _ _ _) (by show roL [nf R, .int .i64 n] = true; simp only [roL,nf_ro]; rfl) hgr (nf_ro _) fun H''' _ => ?_
            simp -implicitDefEqProofs (disch := omega) only [↓ZD,ZP,cnd_t,cnd_f,↓reduceIte,Env.put,stepO,lenV,binV,binInt,unV,loadV,sliceV,boundOf,convV,slstrV,if_pos,if_neg,Int.reduceToNat,Nat.reducePow,V.cells,V.isCell,V.boxable,Nat.reduceEqDiff,reduceCtorEq,reduceIte,ite_self,enterEnv]
            refine gives_eq ?_ rfl
            simp only [V.ro,roL,nf_ro,nsl_ro]; rfl
          · simp -implicitDefEqProofs (disch := omega) only [↓ZD,ZP,cnd_t,cnd_f,↓reduceIte,Env.put,stepO,lenV,binV,binInt,unV,loadV,sliceV,boundOf,convV,slstrV,if_pos,if_neg,Int.reduceToNat,Nat.reducePow,V.cells,V.isCell,V.boxable,Nat.reduceEqDiff,reduceCtorEq,reduceIte,ite_self,enterEnv,h7,h8,h9,h10,h11,h4,genOf,eszOf,HObj.gen,HObj.esz,Option.getD_some,ev0]
            refine calP_lr 1 (hlR _ _ _) (by show roL [nf R, .int .i64 n] = true; simp only [roL,nf_ro]; rfl) hgr (nf_ro _) fun H''' _ => ?_
            simp -implicitDefEqProofs (disch := omega) only [↓ZD,ZP,cnd_t,cnd_f,↓reduceIte,Env.put,stepO,lenV,binV,binInt,unV,loadV,sliceV,boundOf,convV,slstrV,if_pos,if_neg,Int.reduceToNat,Nat.reducePow,V.cells,V.isCell,V.boxable,Nat.reduceEqDiff,reduceCtorEq,reduceIte,ite_self,enterEnv]
            refine gives_eq ?_ rfl
            simp only [V.ro,roL,nf_ro,nsl_ro]; rfl
        · rw [List.concat_eq_append] at *
          -- the window
          obtain ⟨us0, u0, u1, u, hus⟩ : ∃ us0 u0 u1 u, x :: R = us0 ++ [u0, u1, u] ∧ us0.length = vl.length := by
            have hvl : v.length = vl.length + 2 := by rw [← hv]; simp
            have hxR : (x :: R).length = vl.length + 3 := by simp; omega
            refine ⟨(x :: R).take vl.length, (x :: R).getD vl.length 0, (x :: R).getD (vl.length + 1) 0, (x :: R).getD (vl.length + 2) 0, ?_, by simp; omega⟩
            generalize x :: R = l at hxR
            generalize vl.length = k at hxR
            apply List.ext_getElem (by simp; omega)
            intro i h1 h2
            rcases Nat.lt_or_ge i k with h | h
            · rw [List.getElem_append_left (by simp; omega)]; simp
            · rw [List.getElem_append_right (by simp; omega)]
              have hk : (l.take k).length = k := by simp; omega
              rcases (show i = k ∨ i = k + 1 ∨ i = k + 2 by omega) with h | h | h <;> subst h <;> simp [hk, List.getD, h1]
          obtain ⟨hus, husl⟩ := hus
          have hlist : A ++ [x] ++ R ++ Z = A ++ (us0 ++ [u0, u1]) ++ u :: Z := by
            rw [List.append_assoc A, List.singleton_append, hus]; simp
          rw [hlist] at hlm ⊢
          simp only [List.length_append,List.length_cons,List.length_nil,Nat.zero_add] at h11 hAl hDl hinv ⊢
          have h11' : e 11 = .int .i64 A.length := by rw [h11]; congr 1; omega
          have hvk : v.length = vl.length + 2 := by rw [← hv]; simp
          have gU2 : (nl (A ++ (us0 ++ [u0, u1]) ++ u :: Z))[A.length + v.length]? = some (limb u) := nl_at (A ++ (us0 ++ [u0, u1])) Z u (by simp [hvk, husl])
          have gU1 : (nl (A ++ (us0 ++ [u0, u1]) ++ u :: Z))[A.length + v.length - 1]? = some (limb u1) := by
            rw [show A ++ (us0 ++ [u0, u1]) ++ u :: Z = (A ++ us0 ++ [u0]) ++ u1 :: u :: Z by simp]
            exact nl_at _ _ u1 (by simp; omega)
          have gU0 : (nl (A ++ (us0 ++ [u0, u1]) ++ u :: Z))[A.length + v.length - 2]? = some (limb u0) := by
            rw [show A ++ (us0 ++ [u0, u1]) ++ u :: Z = (A ++ us0) ++ u0 :: u1 :: u :: Z by simp]
            exact nl_at _ _ u0 (by simp; omega)
          have gV1 : (nl v)[v.length - 1]? = some (limb v1) := by
            rw [← hv, show vl ++ [v0, v1] = (vl ++ [v0]) ++ v1 :: [] by simp]
            exact nl_at _ _ v1 (by simp)
          have gV0 : (nl v)[v.length - 2]? = some (limb v0) := by
            rw [← hv]
            exact nl_at vl [v1] v0 (by simp)
          have hu : u < 4294967296 := hlm u (by simp)
          have hu1 : u1 < 4294967296 := hlm u1 (by simp)
          have hu0 : u0 < 4294967296 := hlm u0 (by simp)
          have hv132 : v1 < 4294967296 := hvlm v1 (by rw [← hv]; simp)
          have hv032 : v0 < 4294967296 := hvlm v0 (by rw [← hv]; simp)
          have hWval : val (us0 ++ [u0, u1, u]) = x + 4294967296 * val R := by rw [← hus]; rfl
          have hx : x < 4294967296 := by
            have : x ∈ us0 ++ [u0, u1, u] := by rw [← hus]; simp
            rcases List.mem_append.1 this with h | h
            · exact hlm x (by simp [h])
            · simp at h
              rcases h with rfl | rfl | rfl <;> assumption
          have hWlt : val (us0 ++ [u0, u1, u]) < 4294967296 * val (vl ++ [v0, v1]) := by
            rw [hWval, hv, hvval]
            have := Nat.mul_le_mul_left 4294967296 (show val R + 1 ≤ nb * 2 ^ n from hR)
            omega
          have hus0m : Lm us0 := fun y hy => hlm y (by simp [hy])
          have hvlm0 : Lm vl := fun y hy => hvlm y (by rw [← hv]; simp [hy])
          obtain ⟨g1, g2, g3⟩ := guess_window husl hus0m hvlm0 hu0 hu1 hv032 hv1 hWlt
          have hgg := good66 u u1 u0 v1 v0 hu hu1 hu0 hv132 hv032 hv1 g3
          have hg32 := guess_lt u u1 u0 v1 v0
          generalize guess u u1 u0 v1 v0 = g at *
          generalize hLL : nl (A ++ (us0 ++ [u0, u1]) ++ u :: Z) = LL at *
          simp -implicitDefEqProofs (disch := omega) only [↓ZD,ZP,cnd_t,cnd_f,↓reduceIte,Env.put,stepO,lenV,binV,binInt,unV,loadV,sliceV,boundOf,convV,slstrV,if_pos,if_neg,Int.reduceToNat,Nat.reducePow,V.cells,V.isCell,V.boxable,Nat.reduceEqDiff,reduceCtorEq,reduceIte,ite_self,enterEnv,h7,h8,h9,h10,h11',h4,gU2,gU1,gU0,gV1,gV0,sub_one_c,sub_two_c]
          refine calP_ro rfl hgg rfl ?_
          simp -implicitDefEqProofs (disch := omega) only [↓ZD,ZP,cnd_t,cnd_f,↓reduceIte,Env.put,stepO,lenV,binV,binInt,unV,loadV,sliceV,boundOf,convV,slstrV,if_pos,if_neg,Int.reduceToNat,Nat.reducePow,V.cells,V.isCell,V.boxable,Nat.reduceEqDiff,reduceCtorEq,reduceIte,ite_self,enterEnv,h7,h8,h9,h10,h11',h4]
          refine calP_heap (call67 (A ++ (us0 ++ [u0, u1]) ++ u :: Z) ((lim na).length + 1) 0 0 _ false v g A.length A (us0 ++ [u0, u1]) u Z rfl rfl (by simp; omega) (by rw [hLL]; rfl) (by simp; omega) hvlm hlm hg32 (by omega) _ fun r c b htk => ?_)
          have husm : Lm (us0 ++ [u0, u1]) := hlm.left.right
          have hulen : (us0 ++ [u0, u1]).length = v.length := by simp; omega
          have hrok := round_ok (V := nb * 2 ^ n) (W := val (us0 ++ [u0, u1, u])) hulen hvlm husm hu hg32 hvval (by simp) (by
            have := Nat.mul_pos (by omega : 0 < nb) (Nat.two_pow_pos n); omega) (by rw [hv, hvval] at g1; exact g1) (by rw [hv, hvval] at g2; exact g2)
          obtain ⟨_, tm, tl, tc, tb⟩ := takeL_val g hg32 v (us0 ++ [u0, u1]) 0 0 hulen hvlm husm (by decide) (by decide)
          rw [htk] at hrok tm tl tc tb
          simp only at hrok tm tl tc tb
          rw [Nat.mod_eq_of_lt tc]
          have hrep : List.replicate (A.length + 1) 0 ++ D = List.replicate A.length 0 ++ 0 :: D := by rw [List.replicate_succ', List.append_assoc]; rfl
          by_cases hb0 : bor32 u c b = 0
          · obtain ⟨q1, q2, q3⟩ := hrok.1 hb0
            rw [hb0, q3]
            have g4 := nl_put (List.replicate A.length 0) D 0 g (i := A.length) (by simp)
            simp -implicitDefEqProofs (disch := omega) only [↓ZD,ZP,cnd_t,cnd_f,↓reduceIte,Env.put,stepO,lenV,binV,binInt,unV,loadV,sliceV,boundOf,convV,slstrV,if_pos,if_neg,Int.reduceToNat,Nat.reducePow,V.cells,V.isCell,V.boxable,Nat.reduceEqDiff,reduceCtorEq,reduceIte,ite_self,enterEnv,h7,h8,h9,h10,h11',h4,limb,hrep,nl_len,List.length_replicate,g4]
            refine ⟨A.length, by omega, A, r, 0 :: Z, g :: D, rfl, by congr 1, by simp, ?_, by omega, ?_, ?_, ?_, ?_, ?_⟩
            · exact (hlm.left.left.app tm).app fun y hy => by
                rcases List.mem_cons.1 hy with rfl | hy
                · decide
                · exact hlm y (by simp [hy])
            · simp only [List.length_cons]; omega
            · simp only [List.length_cons]; omega
            · intro y hy
              rcases List.mem_cons.1 hy with rfl | hy
              · exact hg32
              · exact hDm y hy
            · rw [q2]; exact Nat.mod_lt _ (Nat.mul_pos (by omega) (Nat.two_pow_pos n))
            · rw [q1]
              exact inv_step (x := x) (R := R) (by rw [hus]) q2 hinv
          · obtain ⟨q1, q2, q3, q4⟩ := hrok.2 hb0
            have hb1 : bor32 u c b = 1 := by have := bor_le u c b; omega
            have hg1 : 1 ≤ g := by rw [q1]; exact Nat.le_add_left _ _
            rw [hb1, q3]
            simp -implicitDefEqProofs (disch := omega) only [↓ZD,ZP,cnd_t,cnd_f,↓reduceIte,Env.put,stepO,lenV,binV,binInt,unV,loadV,sliceV,boundOf,convV,slstrV,if_pos,if_neg,Int.reduceToNat,Nat.reducePow,V.cells,V.isCell,V.boxable,Nat.reduceEqDiff,reduceCtorEq,reduceIte,ite_self,enterEnv,h7,h8,h9,h10,h11',h4,limb,sub_one_c]
            refine go_loop (fun m e H => ∃ (V1 v' R2 us' : List Nat) (cc : Nat), m = v'.length ∧ v = V1 ++ v' ∧ R2.length = V1.length ∧ us'.length = v'.length ∧ e 7 = .int .i64 n ∧ e 8 = .view 0 0 0 ((lim na).length + 1) ∧ e 9 = .sl false (nl v) v.length ∧
              e 10 = .int .i64 v.length ∧ e 11 = .int .i64 A.length ∧ e 4 = .view 1 0 0 ((lim na).length - v.length + 1) ∧ e 12 = .int .u64 (g - 1 : Nat) ∧ e 13 = limb cc ∧ e 117 = .sl false (nl v) v.length ∧ e 118 = .int .i64 v.length ∧ e 119 = .int .i64 V1.length ∧
              H = [.cells 0 1 true (nl (A ++ R2 ++ us' ++ 4294967295 :: Z)), .cells 0 1 true (nl (List.replicate (A.length + 1) 0 ++ D))] ∧ addL 0 v r = (R2 ++ (addL cc v' us').1, (addL cc v' us').2) ∧ cc ≤ 1 ∧ Lm us') v.length
              ⟨[], v, [], r, 0, rfl, rfl, rfl, tl, ?_, ?_, ?_, ?_, ?_, ?_, ?_, ?_, ?_, ?_, ?_, by rw [List.append_nil], rfl, by omega, tm⟩ ?_
            all_goals first | (simp [Env.set, limb, *]; done) | skip
            all_goals first | (simp [Env.set, limb, h9, h11', h4]; done) | skip
            rintro m e H ⟨V1, v', R2, us', cc, rfl, hvs, hR2, hus', h7, h8, h9, h10, h11, h4, h12, h13, h117, h118, h119, rfl, hadd, hcc, husm'⟩
            cases v' with
            | nil =>
              have : us' = [] := List.length_eq_zero_iff.1 hus'
              subst this
              simp only [addL,List.append_nil] at hadd hvs
              subst hvs
              rw [hadd] at q2 q4
              simp only at q2 q4
              subst q2
              rw [List.append_nil]
              have g5 := nl_at (A ++ R2) Z 4294967295 (i := A.length + v.length) (by simp [hR2])
              have g6 := nl_put (A ++ R2) Z 4294967295 0 (i := A.length + v.length) (by simp [hR2])
              have g4 := nl_put (List.replicate A.length 0) D 0 (g - 1) (i := A.length) (by simp)
              have hlen6 : (nl (A ++ R2 ++ 4294967295 :: Z)).length = (lim na).length + 1 := by rw [nl_len]; simp; omega
              obtain ⟨am, al, _⟩ := (addL_val v r 0 tl hvlm tm (by decide)).2
              rw [hadd] at am al
              simp only at am al
              have hw0 : IntKind.u32.wrap ((4294967295 : Nat) + (1 : Nat) : Int) = ((0 : Nat) : Int) := by decide
              generalize hLL2 : nl (A ++ R2 ++ 4294967295 :: Z) = LL2 at *
              simp -implicitDefEqProofs (disch := omega) only [↓ZD,ZP,cnd_t,cnd_f,↓reduceIte,Env.put,stepO,lenV,binV,binInt,unV,loadV,sliceV,boundOf,convV,slstrV,if_pos,if_neg,Int.reduceToNat,Nat.reducePow,V.cells,V.isCell,V.boxable,Nat.reduceEqDiff,reduceCtorEq,reduceIte,ite_self,enterEnv,h7,h8,h9,h10,h11,h4,h12,h13,h117,h118,h119,g5,limb,g6,hlen6,hrep,nl_len,List.length_replicate,g4,w32]
              have hg2 : g - 1 = val (us0 ++ [u0, u1, u]) / (nb * 2 ^ n) := by rw [q1]; exact Nat.add_sub_cancel _ _
              refine ⟨A.length, by omega, A, R2, 0 :: Z, (g - 1) :: D, rfl, rfl, rfl, ?_, by omega, ?_, ?_, ?_, ?_, ?_⟩
              · exact (hlm.left.left.app am).app fun y hy => by
                  rcases List.mem_cons.1 hy with rfl | hy
                  · decide
                  · exact hlm y (by simp [hy])
              · simp only [List.length_cons]; omega
              · simp only [List.length_cons]; omega
              · intro y hy
                rcases List.mem_cons.1 hy with rfl | hy
                · omega
                · exact hDm y hy
              · rw [q4]; exact Nat.mod_lt _ (Nat.mul_pos (by omega) (Nat.two_pow_pos n))
              · rw [hg2]
                exact inv_step (x := x) (R := R) (by rw [hus]) q4 hinv
            | cons y v' =>
              cases us' with
              | nil => simp at hus'
              | cons w us' =>
              simp only [List.length_cons] at hus'
              have hy : y < 4294967296 := hvlm y (by rw [hvs]; simp)
              have hw : w < 4294967296 := husm' w (by simp)
              have gy : (nl v)[V1.length]? = some (limb y) := by rw [hvs]; exact nl_at V1 v' y rfl
              have g5 := nl_at (A ++ R2) (us' ++ 4294967295 :: Z) w (i := A.length + V1.length) (by simp [hR2])
              have g6 := nl_put (A ++ R2) (us' ++ 4294967295 :: Z) w ((w + y + cc) % 4294967296) (i := A.length + V1.length) (by simp [hR2])
              have hass : A ++ R2 ++ (w :: us') ++ 4294967295 :: Z = A ++ R2 ++ w :: (us' ++ 4294967295 :: Z) := by simp
              have hass2 : A ++ R2 ++ (w + y + cc) % 4294967296 :: (us' ++ 4294967295 :: Z) = A ++ (R2 ++ [(w + y + cc) % 4294967296]) ++ us' ++ 4294967295 :: Z := by simp
              rw [hass2] at g6
              rw [hass]
              have hvl2 : v.length = V1.length + (v'.length + 1) := by rw [hvs]; simp
              have hlen6 : (nl (A ++ R2 ++ w :: (us' ++ 4294967295 :: Z))).length = (lim na).length + 1 := by rw [nl_len]; simp; omega
              have hg68 := good68 w y cc hw hy hcc
              have hadd' := hadd
              rw [addL] at hadd'
              have hc1 : (w + y + cc) / 4294967296 ≤ 1 := by omega
              generalize (w + y + cc) % 4294967296 = lo at *
              generalize (w + y + cc) / 4294967296 = hi at *
              generalize hLL2 : nl (A ++ R2 ++ w :: (us' ++ 4294967295 :: Z)) = LL2 at *
              simp -implicitDefEqProofs (disch := omega) only [↓ZD,ZP,cnd_t,cnd_f,↓reduceIte,Env.put,stepO,lenV,binV,binInt,unV,loadV,sliceV,boundOf,convV,slstrV,if_pos,if_neg,Int.reduceToNat,Nat.reducePow,V.cells,V.isCell,V.boxable,Nat.reduceEqDiff,reduceCtorEq,reduceIte,ite_self,enterEnv,h7,h8,h9,h10,h11,h4,h12,h13,h117,h118,h119,gy,g5,limb]
              refine calP_ro rfl hg68 rfl ?_
              simp -implicitDefEqProofs (disch := omega) only [↓ZD,ZP,cnd_t,cnd_f,↓reduceIte,Env.put,stepO,lenV,binV,binInt,unV,loadV,sliceV,boundOf,convV,slstrV,if_pos,if_neg,Int.reduceToNat,Nat.reducePow,V.cells,V.isCell,V.boxable,Nat.reduceEqDiff,reduceCtorEq,reduceIte,ite_self,enterEnv,h7,h8,h9,h10,h11,h4,h12,h13,h117,h118,h119,limb,g6,hlen6]
              refine ⟨v'.length, by omega, V1 ++ [y], v', R2 ++ [lo], us', hi, rfl, (by rw [hvs]; simp), (by simp [hR2]), (by omega), rfl, (by simp), rfl, (by rw [hadd']; simp), hc1, fun z hz => husm' z (List.mem_cons_of_mem _ hz)⟩
end Fe
