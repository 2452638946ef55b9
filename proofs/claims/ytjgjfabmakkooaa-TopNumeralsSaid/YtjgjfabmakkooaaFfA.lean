/-
  Contracts: the greatest common divisor, sums, products. No condition.
-/
import Derived.Test.YtjgjfabmakkooaaFeK
set_option linter.unusedSimpArgs false
set_option linter.unusedVariables false
open Go Go.Proofs
namespace Fe
def b20 : C :=
 (.seq
 (.region false [
 oQ 2 (.mov (.c (.sl true [] 0)))])
 (.seq
 (.region false [
 oQ 3 (.mov (.c (.sl true [] 0)))])
 (.seq
 (.seq
 (.region false [
 oQ 9 (.mov (.t 0)),
 oQ 10 (.len false (.t 9)),
 oQ 11 (.mov (.c (.int .i64 0)))])
 (.block 0
 (.loop
 (.seq
 (.region false [
 oQ 12 (.bin 0 .lss (.t 11) (.t 10))])
 (.seq
 (.cond (.t 12)
 .skip
 (.exit 0))
 (.seq
 (.block 1
 (.seq
 (.region false [
 oQ 13 (.iaddr 1 (.t 9) (.t 11)),
 oQ 14 (.load false 1 (.t 13)),
 oQ 5 (.mov (.t 14))])
 (.seq
 (.region false [
 oQ 15 (.mov (.t 5)),
 ⟨some 16, .call false (.c (.fn 32 [] [])) [.t 15], none⟩,
 oQ 5 (.mov (.t 16))])
 (.block 2
 (.loop
 (.seq
 (.seq
 (.region false [
 oQ 17 (.mov (.t 5)),
 oQ 18 (.len false (.t 17)),
 oQ 19 (.bin 0 .gtr (.t 18) (.c (.int .i64 0)))])
 (.cond (.t 19)
 .skip
 (.exit 2)))
 (.block 3
 (.seq
 (.region false [
 oQ 21 (.mov (.t 3)),
 oQ 22 (.mov (.t 5)),
 ⟨some 23, .call false (.c (.fn 37 [] [])) [.t 21, .t 22], none⟩,
 oQ 20 (.mov (.t 23)),
 oQ 24 (.extract (.t 20) 0),
 oQ 25 (.extract (.t 20) 1),
 oQ 26 (.extract (.t 20) 2),
 oQ 6 (.mov (.t 24)),
 oQ 7 (.mov (.t 25)),
 oQ 8 (.mov (.t 26))])
 (.region false [
 oQ 27 (.mov (.t 5)),
 oQ 28 (.mov (.t 7)),
 oQ 3 (.mov (.t 27)),
 oQ 5 (.mov (.t 28))])))))))))
 (.region false [
 oQ 29 (.bin 0 .add (.t 11) (.c (.int .i64 1))),
 oQ 11 (.mov (.t 29))])))))))
 (.seq
 (.region false [
 oQ 30 (.mov (.t 3)),
 oQ 2 (.mov (.t 30))])
 .ret))))
def c20 : CF := ⟨31, 1, [.mov (.t 2)], b20⟩
theorem s20 : stripF Go.Proofs.Try.prog 20 = some c20 := by kernel_rfl

/-- Limbs, of lists of them. -/
def nls (L : List (Bool × List Nat)) : List V := L.map fun p => nsl p.1 p.2
theorem nls_ro : ∀ L : List (Bool × List Nat), roL (nls L) = true
  | [] => rfl
  | p :: L => by simp only [nls,List.map_cons,roL,Bool.and_eq_true]; exact ⟨nsl_ro _ _, nls_ro L⟩
theorem nls_at (A Z : List (Bool × List Nat)) (p : Bool × List Nat) {i : Nat} (h : A.length = i) : (nls (A ++ p :: Z))[i]? = some (nsl p.1 p.2) := by
  subst h; simp [nls]

def gcdL (g : Nat) (L : List (Bool × List Nat)) : Nat := L.foldl (fun g p => Nat.gcd g (val p.2)) g

theorem nls1_ro {ex : Bool} {L : List (Bool × List Nat)} {n : Nat} : roL [V.sl ex (nls L) n] = true := by simp only [roL,V.ro,nls_ro]; rfl

theorem lim_nil_len {n : Nat} : (lim n).length = 0 ↔ n = 0 := by
  rw [List.length_eq_zero_iff, lim_eq_nil]

theorem lim_mono {a b : Nat} (h : a ≤ b) : (lim a).length ≤ (lim b).length := by
  rcases Nat.lt_or_ge (lim b).length (lim a).length with h1 | h1
  · have := lim_lt h1; omega
  · exact h1

theorem good20 (exl : Bool) (L : List (Bool × List Nat)) (hL : ∀ p ∈ L, Lm p.2 ∧ p.2.length ≤ 100000) (hn : L.length ≤ 1100000) :
    Good Go.Proofs.Try.prog 20 [.sl exl (nls L) L.length] (nf (lim (gcdL 0 L))) := by
  refine good_go mix s20 (Nat.le_of_ble_eq_true rfl) fun e he => ?_
  have e0 : e 0 = .sl exl (nls L) L.length := he 0
  clear he
  simp only [c20,b20, oQ]
  simp -implicitDefEqProofs (disch := omega) only [↓ZD,ZP,cnd_t,cnd_f,↓reduceIte,Env.put,stepO,lenV,binV,binInt,unV,loadV,sliceV,boundOf,convV,slstrV,if_pos,if_neg,Int.reduceToNat,Nat.reducePow,V.cells,V.isCell,V.boxable,Nat.reduceEqDiff,reduceCtorEq,reduceIte,ite_self,enterEnv,e0]
  refine go_loop (fun n e H => H = [] ∧ ∃ pre post eg g, L = pre ++ post ∧ n = post.length ∧ e 9 = .sl exl (nls L) L.length ∧ e 10 = .int .i64 (L.length : Nat) ∧ e 11 = .int .i64 (pre.length : Nat) ∧ e 3 = nsl eg (lim g) ∧ gcdL g post = gcdL 0 L ∧ (lim g).length ≤ 100000)
    L.length ⟨rfl, [], L, true, 0, rfl, rfl, ?_, ?_, ?_, ?_, rfl, by rw [lim_zero]; decide⟩ ?_
  · simp [Env.set]
  · simp [Env.set]
  · simp [Env.set]
  · simp [Env.set, lim_zero, nsl, nl]
  rintro n e H ⟨rfl, pre, post, eg, g, hsplit, rfl, e9, e10, e11, e3, hg, hgl⟩
  cases post with
  | nil =>
    have hpl : pre.length = L.length := by rw [hsplit]; simp
    simp -implicitDefEqProofs (disch := omega) only [↓ZD,ZP,cnd_t,cnd_f,↓reduceIte,Env.put,stepO,lenV,binV,binInt,unV,loadV,sliceV,boundOf,convV,slstrV,if_pos,if_neg,Int.reduceToNat,Nat.reducePow,V.cells,V.isCell,V.boxable,Nat.reduceEqDiff,reduceCtorEq,reduceIte,ite_self,enterEnv,e9,e10,e11,e3,hpl]
    refine gives_eq (nsl_ro _ _) ?_
    rw [weak_nsl, ← hg]; rfl
  | cons p post =>
    have hpl : pre.length < L.length := by rw [hsplit]; simp
    have hlt : ((pre.length : Int) < (L.length : Int)) := by omega
    have hat : (nls L)[pre.length]? = some (nsl p.1 p.2) := by rw [hsplit]; exact nls_at _ _ _ rfl
    obtain ⟨hp, hpn⟩ := hL p (by rw [hsplit]; simp)
    simp -implicitDefEqProofs (disch := omega) only [↓ZD,ZP,cnd_t,cnd_f,↓reduceIte,Env.put,stepO,lenV,binV,binInt,unV,loadV,sliceV,boundOf,convV,slstrV,if_pos,if_neg,Int.reduceToNat,Nat.reducePow,V.cells,V.isCell,V.boxable,Nat.reduceEqDiff,reduceCtorEq,reduceIte,ite_self,enterEnv,e9,e10,e11,e3,hat]
    refine calP_ro (nl_ro_1 _ _) (trim32 p.1 p.2 (by omega)) (nf_ro _) ?_
    rw [cut_lim hp]
    have hvl : (lim (val p.2)).length ≤ 100000 := Nat.le_trans (lim_len (val_lt hp)) hpn
    simp -implicitDefEqProofs (disch := omega) only [↓ZD,ZP,cnd_t,cnd_f,↓reduceIte,Env.put,stepO,lenV,binV,binInt,unV,loadV,sliceV,boundOf,convV,slstrV,if_pos,if_neg,Int.reduceToNat,Nat.reducePow,V.cells,V.isCell,V.boxable,Nat.reduceEqDiff,reduceCtorEq,reduceIte,ite_self,enterEnv,e9,e10,e11,e3]
    refine go_loop (fun n e H => H = [] ∧ e 9 = .sl exl (nls L) L.length ∧ e 10 = .int .i64 (L.length : Nat) ∧ e 11 = .int .i64 (pre.length : Nat) ∧ ∃ eg g ex x, e 3 = nsl eg (lim g) ∧ e 5 = nsl ex (lim x) ∧ n = x ∧ gcdL (Nat.gcd g x) post = gcdL 0 L ∧ (lim g).length ≤ 100000 ∧ (lim x).length ≤ 100000)
      (val p.2) ⟨rfl, ?_, ?_, ?_, eg, g, false, val p.2, ?_, ?_, rfl, hg, hgl, hvl⟩ ?_
    · simp [Env.set, e9]
    · simp [Env.set, e10]
    · simp [Env.set, e11]
    · simp [Env.set, e3]
    · simp [Env.set, nf]
    rintro n e H ⟨rfl, e9, e10, e11, eg, g, ex, x, e3, e5, rfl, hg, hgl, hxl⟩
    by_cases hx : n = 0
    · subst hx
      simp -implicitDefEqProofs (disch := omega) only [↓ZD,ZP,cnd_t,cnd_f,↓reduceIte,Env.put,stepO,lenV,binV,binInt,unV,loadV,sliceV,boundOf,convV,slstrV,if_pos,if_neg,Int.reduceToNat,Nat.reducePow,V.cells,V.isCell,V.boxable,Nat.reduceEqDiff,reduceCtorEq,reduceIte,ite_self,enterEnv,e9,e10,e11,e3,e5,nsl,lim_zero,nl_nil]
      refine ⟨post.length, by simp, pre ++ [p], post, eg, g, by rw [hsplit]; simp, rfl, ?_⟩
      rw [Nat.gcd_zero_right] at hg
      simp [Env.set, e9, e10, e11, e3, nsl, hg, hgl]
    · have hpos : 0 < (lim n).length := by
        have := (not_congr (lim_nil_len (n := n))).2 hx
        omega
      have hpos' : ((lim n).length : Int) > 0 := by omega
      have hgood := good37 eg ex (lim g) (lim n) (lim_lm _) (lim_lm _) hgl hxl
      rw [lim_val, lim_val, divR, if_neg hx] at hgood
      simp -implicitDefEqProofs (disch := omega) only [↓ZD,ZP,cnd_t,cnd_f,↓reduceIte,Env.put,stepO,lenV,binV,binInt,unV,loadV,sliceV,boundOf,convV,slstrV,if_pos,if_neg,Int.reduceToNat,Nat.reducePow,V.cells,V.isCell,V.boxable,Nat.reduceEqDiff,reduceCtorEq,reduceIte,ite_self,enterEnv,e9,e10,e11,e3,e5,nsl]
      refine calP_ro ?_ hgood ?_ ?_
      · simp only [roL,V.ro,nl_ro]; rfl
      · simp only [V.ro,roL,nf_ro,Bool.and_true,Bool.true_and]
      simp -implicitDefEqProofs (disch := omega) only [↓ZD,ZP,cnd_t,cnd_f,↓reduceIte,Env.put,stepO,lenV,binV,binInt,unV,loadV,sliceV,boundOf,convV,slstrV,if_pos,if_neg,Int.reduceToNat,Nat.reducePow,V.cells,V.isCell,V.boxable,Nat.reduceEqDiff,reduceCtorEq,reduceIte,ite_self,enterEnv,e9,e10,e11,e3,e5]
      refine ⟨g % n, Nat.mod_lt _ (by omega), ex, n, false, g % n, ?_, ?_, rfl, ?_, hxl, Nat.le_trans (lim_mono (Nat.le_of_lt (Nat.mod_lt _ (by omega)))) hxl⟩
      · simp [Env.set, nsl]
      · simp [Env.set, nf]; rfl
      · rw [← hg]
        congr 1
        rw [Nat.gcd_comm g n, Nat.gcd_rec n g, Nat.gcd_comm]
end Fe
open Go Go.Proofs
namespace Fe
def b97 : C :=
 (.block 0
 (.loop
 (.seq
 (.seq
 (.region false [
 oQ 6 (.mov (.t 1)),
 oQ 7 (.bin 0 .gtr (.t 6) (.c (.int .u64 0)))])
 (.cond (.t 7)
 .skip
 (.exit 0)))
 (.seq
 (.block 1
 (.seq
 (.block 2
 (.loop
 (.seq
 (.seq
 (.region false [
 oQ 10 (.mov (.t 2)),
 oQ 11 (.mov (.t 0)),
 oQ 12 (.nilck (.t 11)),
 oQ 13 (.load false 1 (.t 12)),
 oQ 14 (.len false (.t 13)),
 oQ 15 (.bin 0 .geq (.t 10) (.t 14))])
 (.cond (.t 15)
 .skip
 (.exit 2)))
 (.block 3
 (.region false [
 oQ 16 (.mov (.t 0)),
 oQ 17 (.mov (.t 0)),
 oQ 18 (.nilck (.t 17)),
 oQ 19 (.load false 1 (.t 18)),
 oQ 20 (.mksl [.int .u32 0] 1 [(0, (1, .c (.int .u32 0)))]),
 oQ 21 (.append 1 4 (.t 19) (.t 20)),
 oQ 22 (.nilck (.t 16)),
 ⟨none, .op (.store 1 (.t 22) (.t 21)), none⟩])))))
 (.seq
 (.region false [
 oQ 23 (.mov (.t 1)),
 oQ 24 (.mov (.t 0)),
 oQ 25 (.nilck (.t 24)),
 oQ 26 (.load false 1 (.t 25)),
 oQ 27 (.mov (.t 2)),
 oQ 28 (.iaddr 1 (.t 26) (.t 27)),
 oQ 29 (.load false 1 (.t 28)),
 oQ 30 (.conv (.int .u64) (.t 29)),
 oQ 31 (.bin 0 .add (.t 23) (.t 30)),
 oQ 1 (.mov (.t 31))])
 (.seq
 (.region false [
 oQ 32 (.mov (.t 0)),
 oQ 33 (.nilck (.t 32)),
 oQ 34 (.load false 1 (.t 33)),
 oQ 35 (.mov (.t 2)),
 oQ 36 (.mov (.t 1)),
 oQ 37 (.conv (.int .u32) (.t 36)),
 oQ 38 (.iaddr 1 (.t 34) (.t 35)),
 ⟨none, .op (.store 1 (.t 38) (.t 37)), none⟩])
 (.region false [
 oQ 39 (.mov (.t 1)),
 oQ 40 (.bin 0 .shr (.t 39) (.c (.int .u64 32))),
 oQ 1 (.mov (.t 40))])))))
 (.region false [
 oQ 8 (.mov (.t 2)),
 oQ 9 (.bin 0 .add (.t 8) (.c (.int .i64 1))),
 oQ 2 (.mov (.t 9))])))))
def c97 : CF := ⟨41, 3, [], b97⟩
def b90 : C :=
 (.seq
 (.region false [
 oQ 6 (.mov (.t 1)),
 oQ 7 (.len false (.t 6)),
 oQ 8 (.mov (.c (.int .i64 0)))])
 (.block 0
 (.loop
 (.seq
 (.region false [
 oQ 9 (.bin 0 .lss (.t 8) (.t 7))])
 (.seq
 (.cond (.t 9)
 .skip
 (.exit 0))
 (.seq
 (.block 1
 (.seq
 (.region false [
 oQ 10 (.mov (.t 8)),
 oQ 11 (.iaddr 1 (.t 6) (.t 8)),
 oQ 12 (.load false 1 (.t 11)),
 oQ 4 (.mov (.t 10)),
 oQ 5 (.mov (.t 12))])
 (.region false [
 oQ 13 (.mov (.t 0)),
 oQ 14 (.nilck (.t 13)),
 oQ 15 (.faddr 0 (.t 14)),
 oQ 16 (.mov (.t 5)),
 oQ 17 (.conv (.int .u64) (.t 16)),
 oQ 18 (.mov (.t 4)),
 ⟨some 19, .call false (.c (.fn 97 [] [])) [.t 15, .t 17, .t 18], none⟩])))
 (.region false [
 oQ 20 (.bin 0 .add (.t 8) (.c (.int .i64 1))),
 oQ 8 (.mov (.t 20))])))))))
def c90 : CF := ⟨21, 2, [], b90⟩
def b89 : C :=
 (.seq
 (.region false [
 oQ 4 (.mov (.c (.sl true [] 0)))])
 (.seq
 (.region false [
 oQ 5 (.box (.c (.agg [.sl true [] 0])))])
 (.seq
 (.seq
 (.region false [
 oQ 10 (.mov (.t 0)),
 oQ 11 (.len false (.t 10)),
 oQ 12 (.mov (.c (.int .i64 0)))])
 (.block 0
 (.loop
 (.seq
 (.region false [
 oQ 13 (.bin 0 .lss (.t 12) (.t 11))])
 (.seq
 (.cond (.t 13)
 .skip
 (.exit 0))
 (.seq
 (.block 1
 (.seq
 (.region false [
 oQ 14 (.mov (.t 12)),
 oQ 15 (.iaddr 1 (.t 10) (.t 12)),
 oQ 16 (.load false 1 (.t 15)),
 oQ 6 (.mov (.t 14)),
 oQ 7 (.mov (.t 16))])
 (.seq
 (.region false [
 oQ 17 (.mov (.t 1)),
 oQ 18 (.len false (.t 17)),
 oQ 19 (.mov (.c (.int .i64 0)))])
 (.block 2
 (.loop
 (.seq
 (.region false [
 oQ 20 (.bin 0 .lss (.t 19) (.t 18))])
 (.seq
 (.cond (.t 20)
 .skip
 (.exit 2))
 (.seq
 (.block 3
 (.seq
 (.region false [
 oQ 21 (.mov (.t 19)),
 oQ 22 (.iaddr 1 (.t 17) (.t 19)),
 oQ 23 (.load false 1 (.t 22)),
 oQ 8 (.mov (.t 21)),
 oQ 9 (.mov (.t 23))])
 (.region false [
 oQ 24 (.faddr 0 (.t 5)),
 oQ 25 (.mov (.t 7)),
 oQ 26 (.conv (.int .u64) (.t 25)),
 oQ 27 (.mov (.t 9)),
 oQ 28 (.conv (.int .u64) (.t 27)),
 oQ 29 (.bin 0 .mul (.t 26) (.t 28)),
 oQ 30 (.mov (.t 6)),
 oQ 31 (.mov (.t 8)),
 oQ 32 (.bin 0 .add (.t 30) (.t 31)),
 ⟨some 33, .call false (.c (.fn 97 [] [])) [.t 24, .t 29, .t 32], none⟩])))
 (.region false [
 oQ 34 (.bin 0 .add (.t 19) (.c (.int .i64 1))),
 oQ 19 (.mov (.t 34))])))))))))
 (.region false [
 oQ 35 (.bin 0 .add (.t 12) (.c (.int .i64 1))),
 oQ 12 (.mov (.t 35))])))))))
 (.seq
 (.region false [
 oQ 36 (.faddr 0 (.t 5)),
 oQ 37 (.load false 1 (.t 36)),
 ⟨some 38, .call false (.c (.fn 36 [] [])) [.t 37], none⟩,
 oQ 4 (.mov (.t 38))])
 .ret))))
def c89 : CF := ⟨39, 2, [.mov (.t 4)], b89⟩
def b74 : C :=
 (.seq
 (.region false [
 oQ 2 (.mov (.c (.sl true [] 0)))])
 (.seq
 (.region false [
 oQ 6 (.mksl [.int .u32 0] 1 [(0, (1, .c (.int .u32 1)))]),
 oQ 3 (.mov (.t 6))])
 (.seq
 (.seq
 (.region false [
 oQ 7 (.mov (.t 0)),
 oQ 8 (.len false (.t 7)),
 oQ 9 (.mov (.c (.int .i64 0)))])
 (.block 0
 (.loop
 (.seq
 (.region false [
 oQ 10 (.bin 0 .lss (.t 9) (.t 8))])
 (.seq
 (.cond (.t 10)
 .skip
 (.exit 0))
 (.seq
 (.block 1
 (.seq
 (.region false [
 oQ 11 (.iaddr 1 (.t 7) (.t 9)),
 oQ 12 (.load false 1 (.t 11)),
 oQ 5 (.mov (.t 12))])
 (.region false [
 oQ 13 (.mov (.t 3)),
 oQ 14 (.mov (.t 5)),
 ⟨some 15, .call false (.c (.fn 89 [] [])) [.t 13, .t 14], none⟩,
 oQ 3 (.mov (.t 15))])))
 (.region false [
 oQ 16 (.bin 0 .add (.t 9) (.c (.int .i64 1))),
 oQ 9 (.mov (.t 16))])))))))
 (.seq
 (.region false [
 oQ 17 (.mov (.t 3)),
 oQ 2 (.mov (.t 17))])
 .ret))))
def c74 : CF := ⟨18, 1, [.mov (.t 2)], b74⟩
def b75 : C :=
 (.seq
 (.region false [
 oQ 2 (.mov (.c (.sl true [] 0)))])
 (.seq
 (.region false [
 oQ 3 (.box (.c (.agg [.sl true [] 0])))])
 (.seq
 (.seq
 (.region false [
 oQ 6 (.mov (.t 0)),
 oQ 7 (.len false (.t 6)),
 oQ 8 (.mov (.c (.int .i64 0)))])
 (.block 0
 (.loop
 (.seq
 (.region false [
 oQ 9 (.bin 0 .lss (.t 8) (.t 7))])
 (.seq
 (.cond (.t 9)
 .skip
 (.exit 0))
 (.seq
 (.block 1
 (.seq
 (.region false [
 oQ 10 (.iaddr 1 (.t 6) (.t 8)),
 oQ 11 (.load false 1 (.t 10)),
 oQ 5 (.mov (.t 11))])
 (.region false [
 oQ 12 (.mov (.t 5)),
 ⟨some 13, .call false (.c (.fn 90 [] [])) [.t 3, .t 12], none⟩])))
 (.region false [
 oQ 14 (.bin 0 .add (.t 8) (.c (.int .i64 1))),
 oQ 8 (.mov (.t 14))])))))))
 (.seq
 (.region false [
 oQ 15 (.faddr 0 (.t 3)),
 oQ 16 (.load false 1 (.t 15)),
 ⟨some 17, .call false (.c (.fn 36 [] [])) [.t 16], none⟩,
 oQ 2 (.mov (.t 17))])
 .ret))))
def c75 : CF := ⟨18, 1, [.mov (.t 2)], b75⟩
theorem s97 : stripF Go.Proofs.Try.prog 97 = some c97 := by kernel_rfl
theorem s90 : stripF Go.Proofs.Try.prog 90 = some c90 := by kernel_rfl
theorem s89 : stripF Go.Proofs.Try.prog 89 = some c89 := by kernel_rfl
theorem s74 : stripF Go.Proofs.Try.prog 74 = some c74 := by kernel_rfl
theorem s75 : stripF Go.Proofs.Try.prog 75 = some c75 := by kernel_rfl

/-- An adder's memory. -/
inductive AdH : Heap → List Nat → Prop
  | nil : AdH [.cells 0 0 true [.sl true [] 0]] []
  | some (g : Nat) (L : List Nat) : AdH [.cells 0 0 true [.view 1 g 0 L.length], .cells g 1 true (nl L)] L

/-- What an addition leaves. -/
structure Added (n at' : Nat) (L L' : List Nat) : Prop where
  lm : Lm L'
  val : val L' = val L + n * 4294967296 ^ at'
  len : L'.length ≤ max (L.length + 1) (at' + 2)

theorem val_zeros (k : Nat) : val (List.replicate k 0) = 0 := by
  induction k with
  | zero => rfl
  | succ k ih => rw [List.replicate_succ, val, ih]

theorem val_ext (L : List Nat) (k : Nat) : val (L ++ List.replicate k 0) = val L := by
  rw [val_app, val_zeros, Nat.mul_zero, Nat.add_zero]

theorem add_meas (n x : Nat) (hn : n ≤ 18446744065119617025) (hx : x < 4294967296) : (n + x) / 4294967296 < 4294967296 := by omega

theorem val_put (A Z : List Nat) (x y : Nat) : val (A ++ y :: Z) + 4294967296 ^ A.length * x = val (A ++ x :: Z) + 4294967296 ^ A.length * y := by
  rw [val_app, val_app, val, val, Nat.mul_add, Nat.mul_add]
  omega

theorem mid {L : List Nat} {i : Nat} (h : i < L.length) : ∃ A x Z, L = A ++ x :: Z ∧ A.length = i := by
  refine ⟨L.take i, L[i], L.drop (i + 1), ?_, by rw [List.length_take]; omega⟩
  rw [← List.drop_eq_getElem_cons h, List.take_append_drop]

def limbsN (n : Nat) : Nat := if n = 0 then 0 else if n < 4294967296 then 1 else 2

theorem call97 (H : Heap) (L : List Nat) (n at' : Nat) (K : V → Heap → Prop) (hH : AdH H L) (hL : Lm L) (hn : n ≤ 18446744065119617025) (hl : L.length ≤ 100000000) (ha : at' ≤ 100000000)
    (hK : ∀ H' L', AdH H' L' → Added n at' L L' → K (.tup []) H') : Call2 Go.Proofs.Try.prog 97 [.cell 0 0 0, .int .u64 n, .int .i64 at'] H K := by
  refine call2_go mix s97 (Nat.le_of_ble_eq_true rfl) fun e he => ?_
  have e0 : e 0 = .cell 0 0 0 := he 0
  have e1 : e 1 = .int .u64 n := he 1
  have e2 : e 2 = .int .i64 at' := he 2
  clear he
  simp only [c97,b97, oQ]
  simp -implicitDefEqProofs (disch := omega) only [↓ZD,ZP,cnd_t,cnd_f,↓reduceIte,Env.put,stepO,lenV,binV,binInt,unV,loadV,sliceV,boundOf,convV,slstrV,if_pos,if_neg,Int.reduceToNat,Nat.reducePow,V.cells,V.isCell,V.boxable,Nat.reduceEqDiff,reduceCtorEq,reduceIte,ite_self,enterEnv]
  refine go_loop (fun k e H => ∃ L' n' i, AdH H L' ∧ e 0 = .cell 0 0 0 ∧ e 1 = .int .u64 (n' : Nat) ∧ e 2 = .int .i64 (i : Nat) ∧ n' ≤ 18446744065119617025 ∧ k = (L'.length - i) + limbsN n' ∧ Lm L' ∧
      val L' + n' * 4294967296 ^ i = val L + n * 4294967296 ^ at' ∧ max (L'.length + if i < L'.length ∧ n' ≠ 0 then 1 else 0) (i + limbsN n') ≤ max (L.length + 1) (at' + 2))
    (L.length - at' + limbsN n) ⟨L, n, at', hH, e0, e1, e2, hn, rfl, hL, rfl, ?_⟩ ?_
  · have : limbsN n ≤ 2 := by unfold limbsN; split <;> (try split) <;> omega
    split <;> omega
  rintro k e H ⟨L', n', i, hAd, e0, e1, e2, hn', rfl, hL', hval, hlen⟩
  by_cases h0 : n' = 0
  · subst h0
    simp -implicitDefEqProofs (disch := omega) only [↓ZD,ZP,cnd_t,cnd_f,↓reduceIte,Env.put,stepO,lenV,binV,binInt,unV,loadV,sliceV,boundOf,convV,slstrV,if_pos,if_neg,Int.reduceToNat,Nat.reducePow,V.cells,V.isCell,V.boxable,Nat.reduceEqDiff,reduceCtorEq,reduceIte,ite_self,enterEnv,e0,e1,e2]
    refine hK _ _ hAd ⟨hL', by omega, by omega⟩
  · have hn0 : 0 < n' := by omega
    simp -implicitDefEqProofs (disch := omega) only [↓ZD,ZP,cnd_t,cnd_f,↓reduceIte,Env.put,stepO,lenV,binV,binInt,unV,loadV,sliceV,boundOf,convV,slstrV,if_pos,if_neg,Int.reduceToNat,Nat.reducePow,V.cells,V.isCell,V.boxable,Nat.reduceEqDiff,reduceCtorEq,reduceIte,ite_self,enterEnv,e0,e1,e2]
    refine go_loop (fun k e H => ∃ j, AdH H (L' ++ List.replicate j 0) ∧ e 0 = .cell 0 0 0 ∧ e 1 = .int .u64 (n' : Nat) ∧ e 2 = .int .i64 (i : Nat) ∧ k = i + 1 - (L'.length + j) ∧ L'.length + j ≤ max L'.length (i + 1))
      (i + 1 - L'.length) ⟨0, by simpa using hAd, by simp [Env.set, e0], by simp [Env.set, e1], by simp [Env.set, e2], rfl, by omega⟩ ?_
    clear hAd
    rintro k e H ⟨j, hAd, e0, e1, e2, rfl, hj⟩
    have hi : i ≤ 100000010 := by
      have : limbsN n' ≤ 2 := by unfold limbsN; split <;> (try split) <;> omega
      omega
    by_cases hlt : i < L'.length + j
    · -- the place is there
      have hM : L' ++ List.replicate j 0 = L' ++ List.replicate j 0 := rfl
      obtain ⟨A, x, Z, hsp, hA⟩ := mid (L := L' ++ List.replicate j 0) (i := i) (by simpa using hlt)
      have hMl : (L' ++ List.replicate j 0).length = L'.length + j := by simp
      have hMv := val_ext L' j
      have hx0 : L'.length ≤ i → x = 0 := by
        intro hle
        have h1 : (L' ++ List.replicate j 0)[i]? = some x := by rw [hsp, ← hA]; simp
        rw [List.getElem?_append_right hle] at h1
        have := List.mem_of_getElem? h1
        exact List.eq_of_mem_replicate this
      have hMm : Lm (L' ++ List.replicate j 0) := hL'.app (fun y hy => by rw [List.eq_of_mem_replicate hy]; decide)
      generalize L' ++ List.replicate j 0 = M at *
      have hx : x < 4294967296 := by rw [hsp] at hMm; exact hMm x (by simp)
      cases hAd with
      | nil => simp at hsp
      | some g =>
        have g1 : (nl M)[i]? = some (limb x) := by rw [hsp]; exact nl_at A Z x hA
        have g2 := fun y => nl_put A Z x y hA
        rw [← hsp] at g2
        have hsum : (n' : Int) + (x : Int) = ((n' + x : Nat) : Int) := by omega
        have hlen2 : (nl M).length = M.length := nl_len M
        generalize hNL : nl M = NL at *
        simp -implicitDefEqProofs (disch := omega) only [↓ZD,ZP,cnd_t,cnd_f,↓reduceIte,Env.put,stepO,lenV,binV,binInt,unV,loadV,sliceV,boundOf,convV,slstrV,if_pos,if_neg,Int.reduceToNat,Nat.reducePow,V.cells,V.isCell,V.boxable,Nat.reduceEqDiff,reduceCtorEq,reduceIte,ite_self,enterEnv,e0,e1,e2,loadV,limb,g1,hsum,w32,shr_c]
        rw [g2]
        have hlo : (n' + x) % 4294967296 < 4294967296 := Nat.mod_lt _ (by decide)
        have hhi : (n' + x) / 4294967296 < 4294967296 := add_meas n' x hn' hx
        have hdm : (n' + x) / 4294967296 * 4294967296 + (n' + x) % 4294967296 = n' + x := by omega
        have hl1 : limbsN ((n' + x) / 4294967296) ≤ 1 := by unfold limbsN; split <;> (try split) <;> omega
        have hl2 : 1 ≤ limbsN n' := by unfold limbsN; split <;> (try split) <;> omega
        have hl3 : x = 0 → limbsN ((n' + x) / 4294967296) < limbsN n' := by
          rintro rfl
          unfold limbsN
          split <;> (try split) <;> (try split) <;> omega
        generalize (n' + x) / 4294967296 = hi at *
        generalize (n' + x) % 4294967296 = lo at *
        have hMl2 : (A ++ lo :: Z).length = M.length := by rw [hsp]; simp
        refine ⟨(A ++ lo :: Z).length - (i + 1) + limbsN hi, ?_, A ++ lo :: Z, hi, i + 1, ?_, rfl, rfl, by omega, rfl, ?_, ?_, ?_⟩
        · rw [hMl2, hMl]
          rcases Nat.lt_or_ge i L'.length with h1 | h1
          · omega
          · have := hl3 (hx0 h1); omega
        · rw [← hMl2]; exact .some g _
        · rw [hsp] at hMm
          exact hMm.left.app (fun y hy => by
            rcases List.mem_cons.1 hy with rfl | hy
            · exact hlo
            · exact hMm.right.tail y hy)
        · rw [← hval, ← hMv, hsp]
          have h1 := val_put A Z x lo
          rw [hA] at h1
          have h2 : 4294967296 ^ i * (hi * 4294967296 + lo) = 4294967296 ^ i * (n' + x) := by rw [hdm]
          rw [Nat.mul_add, Nat.mul_add, ← Nat.mul_assoc] at h2
          rw [Nat.pow_succ]
          have h3 : hi * (4294967296 ^ i * 4294967296) = 4294967296 ^ i * hi * 4294967296 := by rw [Nat.mul_comm (4294967296 ^ i) hi, Nat.mul_assoc]
          rw [h3, Nat.mul_comm n']
          omega
        · rw [hMl2, hMl]
          rcases Nat.lt_or_ge i L'.length with h1 | h1
          · rw [if_pos ⟨h1, h0⟩] at hlen
            split <;> omega
          · have := hl3 (hx0 h1)
            rw [if_neg (by omega)] at hlen ⊢
            omega
    · -- one more limb
      have hMl : (L' ++ List.replicate j 0).length = L'.length + j := by simp
      have hnext : L' ++ List.replicate j 0 ++ [0] = L' ++ List.replicate (j + 1) 0 := by
        rw [List.replicate_succ', List.append_assoc]
      have hj' : j + 1 ≤ 200000000 := by omega
      rw [← hMl] at hlt hj
      have fin : ∀ (H' : Heap), AdH H' (L' ++ List.replicate j 0 ++ [0]) →
          ∃ m, m < i + 1 - (L'.length + j) ∧ ∃ j, AdH H' (L' ++ List.replicate j 0) ∧ m = i + 1 - (L'.length + j) ∧ L'.length + j ≤ max L'.length (i + 1) := by
        intro H' h1
        rw [hnext] at h1
        exact ⟨i + 1 - (L'.length + (j + 1)), by omega, j + 1, h1, rfl, by omega⟩
      generalize L' ++ List.replicate j 0 = M at *
      cases hAd with
      | nil =>
        simp -implicitDefEqProofs (disch := omega) only [↓ZD,ZP,cnd_t,cnd_f,↓reduceIte,Env.put,stepO,lenV,binV,binInt,unV,loadV,sliceV,boundOf,convV,slstrV,if_pos,if_neg,Int.reduceToNat,Nat.reducePow,V.cells,V.isCell,V.boxable,Nat.reduceEqDiff,reduceCtorEq,reduceIte,ite_self,enterEnv,e0,e1,e2,loadV,fillL,evParts,splice,List.take_zero,List.drop_succ_cons,List.drop_zero,List.drop_nil,appendV,srcCells,readSl]
        exact fin _ (.some 0 [0])
      | some g =>
        have hML : M.length ≤ 200000000 := by omega
        simp -implicitDefEqProofs (disch := omega) only [↓ZD,ZP,cnd_t,cnd_f,↓reduceIte,Env.put,stepO,lenV,binV,binInt,unV,loadV,sliceV,boundOf,convV,slstrV,if_pos,if_neg,Int.reduceToNat,Nat.reducePow,V.cells,V.isCell,V.boxable,Nat.reduceEqDiff,reduceCtorEq,reduceIte,ite_self,enterEnv,e0,e1,e2,loadV,fillL,evParts,splice,List.take_zero,List.drop_succ_cons,List.drop_zero,List.drop_nil,appendV,srcCells,readSl,nl_len,limb]
        have happ : (nl M).take M.length ++ [V.int .u32 0] = nl (M ++ [0]) := by rw [nl_app, ← nl_len M, List.take_length]; rfl
        have := AdH.some (g + 1) (M ++ [0])
        rw [← happ] at this
        rw [List.length_append] at this
        exact fin _ this

theorem val_snoc (A : List Nat) (x : Nat) : val (A ++ [x]) = val A + x * 4294967296 ^ A.length := by
  rw [val_app, val, val, Nat.mul_zero, Nat.add_zero, Nat.mul_comm]

theorem call90 (H : Heap) (L : List Nat) (ex : Bool) (b : List Nat) (K : V → Heap → Prop) (hH : AdH H L) (hL : Lm L) (hb : Lm b) (hl : L.length + b.length * 2 ≤ 190000)
    (hK : ∀ H' L', AdH H' L' → Lm L' → val L' = val L + val b → L'.length ≤ L.length + b.length * 2 + 1 → K (.tup []) H') : Call2 Go.Proofs.Try.prog 90 [.cell 0 0 0, nsl ex b] H K := by
  refine call2_go mix s90 (Nat.le_of_ble_eq_true rfl) fun e he => ?_
  have e0 : e 0 = .cell 0 0 0 := he 0
  have e1 : e 1 = nsl ex b := he 1
  clear he
  simp only [c90,b90, oQ]
  simp -implicitDefEqProofs (disch := omega) only [↓ZD,ZP,cnd_t,cnd_f,↓reduceIte,Env.put,stepO,lenV,binV,binInt,unV,loadV,sliceV,boundOf,convV,slstrV,if_pos,if_neg,Int.reduceToNat,Nat.reducePow,V.cells,V.isCell,V.boxable,Nat.reduceEqDiff,reduceCtorEq,reduceIte,ite_self,enterEnv,e0,e1,nsl]
  refine go_loop (fun k e H => ∃ pre post L', b = pre ++ post ∧ k = post.length ∧ AdH H L' ∧ Lm L' ∧ val L' = val L + val pre ∧ L'.length ≤ L.length + b.length + 1 + pre.length ∧
      e 0 = .cell 0 0 0 ∧ e 6 = .sl ex (nl b) b.length ∧ e 7 = .int .i64 (b.length : Nat) ∧ e 8 = .int .i64 (pre.length : Nat))
    b.length ⟨[], b, L, rfl, rfl, hH, hL, rfl, by simp; omega, ?_, ?_, ?_, ?_⟩ ?_
  · simp [Env.set, e0]
  · simp [Env.set]
  · simp [Env.set]
  · simp [Env.set]
  rintro k e H ⟨pre, post, L', hsp, rfl, hAd, hLm, hv, hlen, e0, e6, e7, e8⟩
  have hpl : b.length = pre.length + post.length := by rw [hsp]; simp
  cases post with
  | nil =>
    simp only [List.length_nil,Nat.add_zero] at hpl
    simp -implicitDefEqProofs (disch := omega) only [↓ZD,ZP,cnd_t,cnd_f,↓reduceIte,Env.put,stepO,lenV,binV,binInt,unV,loadV,sliceV,boundOf,convV,slstrV,if_pos,if_neg,Int.reduceToNat,Nat.reducePow,V.cells,V.isCell,V.boxable,Nat.reduceEqDiff,reduceCtorEq,reduceIte,ite_self,enterEnv,e0,e6,e7,e8,hpl]
    refine hK _ _ hAd hLm ?_ (by omega)
    rw [hv, hsp, List.append_nil]
  | cons x post =>
    simp only [List.length_cons] at hpl
    have hx : x < 4294967296 := hb x (by rw [hsp]; simp)
    have hat : (nl b)[pre.length]? = some (limb x) := by rw [hsp]; exact nl_at pre post x rfl
    simp -implicitDefEqProofs (disch := omega) only [↓ZD,ZP,cnd_t,cnd_f,↓reduceIte,Env.put,stepO,lenV,binV,binInt,unV,loadV,sliceV,boundOf,convV,slstrV,if_pos,if_neg,Int.reduceToNat,Nat.reducePow,V.cells,V.isCell,V.boxable,Nat.reduceEqDiff,reduceCtorEq,reduceIte,ite_self,enterEnv,e0,e6,e7,e8,hat,limb]
    refine calP_heap (call97 H L' x pre.length _ hAd hLm (by omega) (by omega) (by omega) fun H' L'' hAd' hadd => ?_)
    simp -implicitDefEqProofs (disch := omega) only [↓ZD,ZP,cnd_t,cnd_f,↓reduceIte,Env.put,stepO,lenV,binV,binInt,unV,loadV,sliceV,boundOf,convV,slstrV,if_pos,if_neg,Int.reduceToNat,Nat.reducePow,V.cells,V.isCell,V.boxable,Nat.reduceEqDiff,reduceCtorEq,reduceIte,ite_self,enterEnv,e0,e6,e7,e8,hat,limb]
    have h3 := hadd.len
    refine ⟨post.length, by simp, pre ++ [x], post, L'', by rw [hsp]; simp, rfl, hAd', hadd.lm, ?_, ?_, ?_⟩
    · rw [hadd.val, hv, val_snoc]; omega
    · simp; omega
    · simp

theorem adH_load {H : Heap} {L : List Nat} (h : AdH H L) : ∃ (v : V) (H' : Heap) (ex : Bool), H[0]? = some (HObj.cells 0 0 true [v]) ∧ lend 1 H [v] = (H', [nsl ex L]) := by
  cases h with
  | nil => exact ⟨_, _, true, rfl, rfl⟩
  | some g L =>
    have : ((nl L).drop 0).take (L.length * 1) = nl L := by rw [List.drop_zero, Nat.mul_one, ← nl_len L, List.take_length]
    refine ⟨.view 1 g 0 L.length, (lend 1 [.cells 0 0 true [.view 1 g 0 L.length], .cells g 1 true (nl L)] [.view 1 g 0 L.length]).1, false, rfl, ?_⟩
    simp only [lend1,borL,bor,List.getElem?_cons_succ,List.getElem?_cons_zero,if_true,this,nsl]

theorem good75 (exl : Bool) (L : List (Bool × List Nat)) (hL : ∀ p ∈ L, Lm p.2 ∧ p.2.length ≤ 5000) (hn : L.length ≤ 10) :
    Good Go.Proofs.Try.prog 75 [.sl exl (nls L) L.length] (nf (lim (L.map fun p => val p.2).sum)) := by
  refine good_go mix s75 (Nat.le_of_ble_eq_true rfl) fun e he => ?_
  have e0 : e 0 = .sl exl (nls L) L.length := he 0
  clear he
  simp only [c75,b75, oQ]
  simp -implicitDefEqProofs (disch := omega) only [↓ZD,ZP,cnd_t,cnd_f,↓reduceIte,Env.put,stepO,lenV,binV,binInt,unV,loadV,sliceV,boundOf,convV,slstrV,if_pos,if_neg,Int.reduceToNat,Nat.reducePow,V.cells,V.isCell,V.boxable,Nat.reduceEqDiff,reduceCtorEq,reduceIte,ite_self,enterEnv,e0]
  refine go_loop (fun k e H => ∃ pre post S, L = pre ++ post ∧ k = post.length ∧ AdH H S ∧ Lm S ∧ val S = (pre.map fun p => val p.2).sum ∧ S.length ≤ pre.length * 10001 ∧
      e 3 = .cell 0 0 0 ∧ e 6 = .sl exl (nls L) L.length ∧ e 7 = .int .i64 (L.length : Nat) ∧ e 8 = .int .i64 (pre.length : Nat))
    L.length ⟨[], L, [], rfl, rfl, .nil, (fun x hx => by simp at hx), rfl, by simp, ?_, ?_, ?_, ?_⟩ ?_
  · simp [Env.set]
  · simp [Env.set]
  · simp [Env.set]
  · simp [Env.set]
  rintro k e H ⟨pre, post, S, hsp, rfl, hAd, hLm, hv, hlen, e3, e6, e7, e8⟩
  have hpl : L.length = pre.length + post.length := by rw [hsp]; simp
  cases post with
  | nil =>
    simp only [List.length_nil,Nat.add_zero] at hpl
    rw [List.append_nil] at hsp
    simp -implicitDefEqProofs (disch := omega) only [↓ZD,ZP,cnd_t,cnd_f,↓reduceIte,Env.put,stepO,lenV,binV,binInt,unV,loadV,sliceV,boundOf,convV,slstrV,if_pos,if_neg,Int.reduceToNat,Nat.reducePow,V.cells,V.isCell,V.boxable,Nat.reduceEqDiff,reduceCtorEq,reduceIte,ite_self,enterEnv,e3,e6,e7,e8,hpl]
    obtain ⟨v, H', ex, h1, h2⟩ := adH_load hAd
    have hpos : 0 < H.length := by
      rcases Nat.eq_zero_or_pos H.length with h | h
      · rw [List.length_eq_zero_iff.1 h] at h1; simp at h1
      · exact h
    simp -implicitDefEqProofs (disch := omega) only [↓ZD,ZP,cnd_t,cnd_f,↓reduceIte,Env.put,stepO,lenV,binV,binInt,unV,loadV,sliceV,boundOf,convV,slstrV,if_pos,if_neg,Int.reduceToNat,Nat.reducePow,V.cells,V.isCell,V.boxable,Nat.reduceEqDiff,reduceCtorEq,reduceIte,ite_self,enterEnv,loadV,h1,hpos]
    have hc := cut36 ex S (by omega)
    rw [cut_lim hLm, hv, ← hsp] at hc
    refine calP_lr 1 h2 (nl_ro_1 _ _) hc (nsl_ro _ _) fun H'' _ => ?_
    simp -implicitDefEqProofs (disch := omega) only [↓ZD,ZP,cnd_t,cnd_f,↓reduceIte,Env.put,stepO,lenV,binV,binInt,unV,loadV,sliceV,boundOf,convV,slstrV,if_pos,if_neg,Int.reduceToNat,Nat.reducePow,V.cells,V.isCell,V.boxable,Nat.reduceEqDiff,reduceCtorEq,reduceIte,ite_self,enterEnv]
    exact gives_eq (nsl_ro _ _) rfl
  | cons p post =>
    simp only [List.length_cons] at hpl
    obtain ⟨hp1, hp2⟩ := hL p (by rw [hsp]; simp)
    have hat : (nls L)[pre.length]? = some (nsl p.1 p.2) := by rw [hsp]; exact nls_at _ _ _ rfl
    simp -implicitDefEqProofs (disch := omega) only [↓ZD,ZP,cnd_t,cnd_f,↓reduceIte,Env.put,stepO,lenV,binV,binInt,unV,loadV,sliceV,boundOf,convV,slstrV,if_pos,if_neg,Int.reduceToNat,Nat.reducePow,V.cells,V.isCell,V.boxable,Nat.reduceEqDiff,reduceCtorEq,reduceIte,ite_self,enterEnv,e3,e6,e7,e8,hat]
    refine calP_heap (call90 H S p.1 p.2 _ hAd hLm hp1 (by omega) fun H' S' hAd' hm' hv' hl' => ?_)
    simp -implicitDefEqProofs (disch := omega) only [↓ZD,ZP,cnd_t,cnd_f,↓reduceIte,Env.put,stepO,lenV,binV,binInt,unV,loadV,sliceV,boundOf,convV,slstrV,if_pos,if_neg,Int.reduceToNat,Nat.reducePow,V.cells,V.isCell,V.boxable,Nat.reduceEqDiff,reduceCtorEq,reduceIte,ite_self,enterEnv,e3,e6,e7,e8,hat]
    refine ⟨post.length, by simp, pre ++ [p], post, S', by rw [hsp]; simp, rfl, hAd', hm', ?_, ?_, ?_⟩
    · rw [hv', hv]; simp
    · simp; omega
    · simp

theorem row_len (la lb : Nat) (i : Nat) (hi : i < la) (h : la * lb ≤ 50000000) : (i + 1) * lb ≤ 50000000 := Nat.le_trans (Nat.mul_le_mul_right _ hi) h

theorem good89 (exa exb : Bool) (a b : List Nat) (ha : Lm a) (hb : Lm b) (hla : a.length ≤ 20000) (hlb : b.length ≤ 20000) (hab : a.length * b.length ≤ 50000000) :
    Good Go.Proofs.Try.prog 89 [nsl exa a, nsl exb b] (nf (lim (val a * val b))) := by
  refine good_go mix s89 (Nat.le_of_ble_eq_true rfl) fun e he => ?_
  have e0 : e 0 = nsl exa a := he 0
  have e1 : e 1 = nsl exb b := he 1
  clear he
  simp only [c89,b89, oQ]
  simp -implicitDefEqProofs (disch := omega) only [↓ZD,ZP,cnd_t,cnd_f,↓reduceIte,Env.put,stepO,lenV,binV,binInt,unV,loadV,sliceV,boundOf,convV,slstrV,if_pos,if_neg,Int.reduceToNat,Nat.reducePow,V.cells,V.isCell,V.boxable,Nat.reduceEqDiff,reduceCtorEq,reduceIte,ite_self,enterEnv,e0,e1,nsl]
  refine go_loop (fun k e H => ∃ pre post S, a = pre ++ post ∧ k = post.length ∧ AdH H S ∧ Lm S ∧ val S = val pre * val b ∧ S.length ≤ 40000 + pre.length * b.length ∧
      e 5 = .cell 0 0 0 ∧ e 1 = .sl exb (nl b) b.length ∧ e 10 = .sl exa (nl a) a.length ∧ e 11 = .int .i64 (a.length : Nat) ∧ e 12 = .int .i64 (pre.length : Nat))
    a.length ⟨[], a, [], rfl, rfl, .nil, (fun x hx => by simp at hx), by simp [val], by simp, ?_, ?_, ?_, ?_, ?_⟩ ?_
  · simp [Env.set]
  · simp [Env.set, e1, nsl]
  · simp [Env.set]
  · simp [Env.set]
  · simp [Env.set]
  rintro k e H ⟨pre, post, S, hsp, rfl, hAd, hLm, hv, hlen, e5, e1, e10, e11, e12⟩
  have hpl : a.length = pre.length + post.length := by rw [hsp]; simp
  cases post with
  | nil =>
    simp only [List.length_nil,Nat.add_zero] at hpl
    rw [List.append_nil] at hsp
    simp -implicitDefEqProofs (disch := omega) only [↓ZD,ZP,cnd_t,cnd_f,↓reduceIte,Env.put,stepO,lenV,binV,binInt,unV,loadV,sliceV,boundOf,convV,slstrV,if_pos,if_neg,Int.reduceToNat,Nat.reducePow,V.cells,V.isCell,V.boxable,Nat.reduceEqDiff,reduceCtorEq,reduceIte,ite_self,enterEnv,e5,e1,e10,e11,e12,hpl]
    obtain ⟨v, H', ex, h1, h2⟩ := adH_load hAd
    have hpos : 0 < H.length := by
      rcases Nat.eq_zero_or_pos H.length with h | h
      · rw [List.length_eq_zero_iff.1 h] at h1; simp at h1
      · exact h
    simp -implicitDefEqProofs (disch := omega) only [↓ZD,ZP,cnd_t,cnd_f,↓reduceIte,Env.put,stepO,lenV,binV,binInt,unV,loadV,sliceV,boundOf,convV,slstrV,if_pos,if_neg,Int.reduceToNat,Nat.reducePow,V.cells,V.isCell,V.boxable,Nat.reduceEqDiff,reduceCtorEq,reduceIte,ite_self,enterEnv,loadV,h1,hpos]
    rw [← hpl] at hlen
    have hc := cut36 ex S (by omega)
    rw [cut_lim hLm, hv, ← hsp] at hc
    refine calP_lr 1 h2 (nl_ro_1 _ _) hc (nsl_ro _ _) fun H'' _ => ?_
    simp -implicitDefEqProofs (disch := omega) only [↓ZD,ZP,cnd_t,cnd_f,↓reduceIte,Env.put,stepO,lenV,binV,binInt,unV,loadV,sliceV,boundOf,convV,slstrV,if_pos,if_neg,Int.reduceToNat,Nat.reducePow,V.cells,V.isCell,V.boxable,Nat.reduceEqDiff,reduceCtorEq,reduceIte,ite_self,enterEnv]
    exact gives_eq (nsl_ro _ _) rfl
  | cons x post =>
    simp only [List.length_cons] at hpl
    have hx : x < 4294967296 := ha x (by rw [hsp]; simp)
    have hat : (nl a)[pre.length]? = some (limb x) := by rw [hsp]; exact nl_at pre post x rfl
    have hrow := row_len a.length b.length pre.length (by omega) hab
    rw [Nat.succ_mul] at hrow
    simp -implicitDefEqProofs (disch := omega) only [↓ZD,ZP,cnd_t,cnd_f,↓reduceIte,Env.put,stepO,lenV,binV,binInt,unV,loadV,sliceV,boundOf,convV,slstrV,if_pos,if_neg,Int.reduceToNat,Nat.reducePow,V.cells,V.isCell,V.boxable,Nat.reduceEqDiff,reduceCtorEq,reduceIte,ite_self,enterEnv,e5,e1,e10,e11,e12,hat,limb]
    refine go_loop (fun k e H => ∃ q r S, b = q ++ r ∧ k = r.length ∧ AdH H S ∧ Lm S ∧ val S = val pre * val b + x * val q * 4294967296 ^ pre.length ∧ S.length ≤ 40000 + pre.length * b.length + q.length ∧
        e 5 = .cell 0 0 0 ∧ e 1 = .sl exb (nl b) b.length ∧ e 10 = .sl exa (nl a) a.length ∧ e 11 = .int .i64 (a.length : Nat) ∧ e 12 = .int .i64 (pre.length : Nat) ∧
        e 6 = .int .i64 (pre.length : Nat) ∧ e 7 = .int .u32 x ∧ e 17 = .sl exb (nl b) b.length ∧ e 18 = .int .i64 (b.length : Nat) ∧ e 19 = .int .i64 (q.length : Nat))
      b.length ⟨[], b, S, rfl, rfl, hAd, hLm, by rw [hv]; simp [val], by simpa using hlen, ?_, ?_, ?_, ?_, ?_, ?_, ?_, ?_, ?_, ?_⟩ ?_
    · simp [Env.set, e5]
    · simp [Env.set, e1]
    · simp [Env.set, e10]
    · simp [Env.set, e11]
    · simp [Env.set, e12]
    · simp [Env.set]
    · simp [Env.set]
    · simp [Env.set, e1]
    · simp [Env.set, e1]
    · simp [Env.set]
    clear hAd hLm hv hlen S
    rintro k e H ⟨q, r, S, hsq, rfl, hAd, hLm, hv, hlen, e5, e1, e10, e11, e12, e6, e7, e17, e18, e19⟩
    have hql : b.length = q.length + r.length := by rw [hsq]; simp
    cases r with
    | nil =>
      simp only [List.length_nil,Nat.add_zero] at hql
      rw [List.append_nil] at hsq
      simp -implicitDefEqProofs (disch := omega) only [↓ZD,ZP,cnd_t,cnd_f,↓reduceIte,Env.put,stepO,lenV,binV,binInt,unV,loadV,sliceV,boundOf,convV,slstrV,if_pos,if_neg,Int.reduceToNat,Nat.reducePow,V.cells,V.isCell,V.boxable,Nat.reduceEqDiff,reduceCtorEq,reduceIte,ite_self,enterEnv,e5,e1,e10,e11,e12,e6,e7,e17,e18,e19,hql]
      refine ⟨post.length, by simp, pre ++ [x], post, S, by rw [hsp]; simp, rfl, hAd, hLm, ?_, ?_, ?_⟩
      · rw [hv, val_snoc, Nat.add_mul, ← hsq, Nat.mul_right_comm]
      · rw [← hql] at hlen
        simp only [List.length_append,List.length_cons,List.length_nil,Nat.zero_add,Nat.succ_mul,← hql]
        omega
      · simp
    | cons y r =>
      simp only [List.length_cons] at hql
      have hy : y < 4294967296 := hb y (by rw [hsq]; simp)
      have hay : (nl b)[q.length]? = some (limb y) := by rw [hsq]; exact nl_at q r y rfl
      have hxy : x * y ≤ 18446744065119617025 := by
        have := Nat.mul_le_mul (show x ≤ 4294967295 by omega) (show y ≤ 4294967295 by omega)
        omega
      generalize hp : x * y = p at *
      simp -implicitDefEqProofs (disch := omega) only [↓ZD,ZP,cnd_t,cnd_f,↓reduceIte,Env.put,stepO,lenV,binV,binInt,unV,loadV,sliceV,boundOf,convV,slstrV,if_pos,if_neg,Int.reduceToNat,Nat.reducePow,V.cells,V.isCell,V.boxable,Nat.reduceEqDiff,reduceCtorEq,reduceIte,ite_self,enterEnv,e5,e1,e10,e11,e12,e6,e7,e17,e18,e19,hay,limb,mul_c,hp]
      refine calP_heap (call97 H S p (pre.length + q.length) _ hAd hLm hxy (by omega) (by omega) fun H' S' hAd' hadd => ?_)
      simp -implicitDefEqProofs (disch := omega) only [↓ZD,ZP,cnd_t,cnd_f,↓reduceIte,Env.put,stepO,lenV,binV,binInt,unV,loadV,sliceV,boundOf,convV,slstrV,if_pos,if_neg,Int.reduceToNat,Nat.reducePow,V.cells,V.isCell,V.boxable,Nat.reduceEqDiff,reduceCtorEq,reduceIte,ite_self,enterEnv,e5,e1,e10,e11,e12,e6,e7,e17,e18,e19]
      have h3 := hadd.len
      refine ⟨r.length, by simp, q ++ [y], r, S', by rw [hsq]; simp, rfl, hAd', hadd.lm, ?_, ?_, ?_⟩
      · rw [hadd.val, hv, val_snoc, Nat.mul_add, Nat.add_mul, ← hp, Nat.pow_add]
        simp only [Nat.mul_assoc,Nat.mul_comm,Nat.mul_left_comm,Nat.add_assoc]
      · simp only [List.length_append,List.length_cons,List.length_nil]
        omega
      · simp

def prodL (p : Nat) (L : List (Bool × List Nat)) : Nat := L.foldl (fun g p => g * val p.2) p

theorem good74 (exl : Bool) (L : List (Bool × List Nat)) (hL : ∀ p ∈ L, Lm p.2) (hn : L.length ≤ 10) (hb : ∀ A p Z, L = A ++ p :: Z → (lim (prodL 1 A)).length ≤ 20000 ∧ p.2.length ≤ 20000 ∧ (lim (prodL 1 A)).length * p.2.length ≤ 50000000) :
    Good Go.Proofs.Try.prog 74 [.sl exl (nls L) L.length] (nf (lim (prodL 1 L))) := by
  refine good_go mix s74 (Nat.le_of_ble_eq_true rfl) fun e he => ?_
  have e0 : e 0 = .sl exl (nls L) L.length := he 0
  clear he
  simp only [c74,b74, oQ]
  simp -implicitDefEqProofs (disch := omega) only [↓ZD,ZP,cnd_t,cnd_f,↓reduceIte,Env.put,stepO,lenV,binV,binInt,unV,loadV,sliceV,boundOf,convV,slstrV,if_pos,if_neg,Int.reduceToNat,Nat.reducePow,V.cells,V.isCell,V.boxable,Nat.reduceEqDiff,reduceCtorEq,reduceIte,ite_self,enterEnv,e0,fillL,evParts,splice,List.take_zero,List.drop_succ_cons,List.drop_zero,List.drop_nil]
  refine go_loop (fun k e H => H = [] ∧ ∃ pre post ep, L = pre ++ post ∧ k = post.length ∧ e 3 = nsl ep (lim (prodL 1 pre)) ∧ e 7 = .sl exl (nls L) L.length ∧ e 8 = .int .i64 (L.length : Nat) ∧ e 9 = .int .i64 (pre.length : Nat))
    L.length ⟨rfl, [], L, true, rfl, rfl, ?_, ?_, ?_, ?_⟩ ?_
  · have h1 : lim 1 = [1] := by rw [lim_pos (by decide)]; simp [lim_zero]
    simp [Env.set, prodL, h1, nsl, nl, limb]
  · simp [Env.set]
  · simp [Env.set]
  · simp [Env.set]
  rintro k e H ⟨rfl, pre, post, ep, hsp, rfl, e3, e7, e8, e9⟩
  have hpl : L.length = pre.length + post.length := by rw [hsp]; simp
  cases post with
  | nil =>
    simp only [List.length_nil,Nat.add_zero] at hpl
    rw [List.append_nil] at hsp
    simp -implicitDefEqProofs (disch := omega) only [↓ZD,ZP,cnd_t,cnd_f,↓reduceIte,Env.put,stepO,lenV,binV,binInt,unV,loadV,sliceV,boundOf,convV,slstrV,if_pos,if_neg,Int.reduceToNat,Nat.reducePow,V.cells,V.isCell,V.boxable,Nat.reduceEqDiff,reduceCtorEq,reduceIte,ite_self,enterEnv,e3,e7,e8,e9,hpl]
    rw [← hsp]
    exact gives_eq (nsl_ro _ _) rfl
  | cons p post =>
    simp only [List.length_cons] at hpl
    have hat : (nls L)[pre.length]? = some (nsl p.1 p.2) := by rw [hsp]; exact nls_at _ _ _ rfl
    obtain ⟨b1, b2, b3⟩ := hb pre p post hsp
    simp -implicitDefEqProofs (disch := omega) only [↓ZD,ZP,cnd_t,cnd_f,↓reduceIte,Env.put,stepO,lenV,binV,binInt,unV,loadV,sliceV,boundOf,convV,slstrV,if_pos,if_neg,Int.reduceToNat,Nat.reducePow,V.cells,V.isCell,V.boxable,Nat.reduceEqDiff,reduceCtorEq,reduceIte,ite_self,enterEnv,e3,e7,e8,e9,hat]
    have hg := good89 ep p.1 (lim (prodL 1 pre)) p.2 (lim_lm _) (hL p (by rw [hsp]; simp)) b1 b2 b3
    rw [lim_val] at hg
    refine calP_ro (by simp only [roL,nsl_ro]; rfl) hg (nf_ro _) ?_
    simp -implicitDefEqProofs (disch := omega) only [↓ZD,ZP,cnd_t,cnd_f,↓reduceIte,Env.put,stepO,lenV,binV,binInt,unV,loadV,sliceV,boundOf,convV,slstrV,if_pos,if_neg,Int.reduceToNat,Nat.reducePow,V.cells,V.isCell,V.boxable,Nat.reduceEqDiff,reduceCtorEq,reduceIte,ite_self,enterEnv,e3,e7,e8,e9,hat]
    refine ⟨post.length, by simp, pre ++ [p], post, false, by rw [hsp]; simp, rfl, ?_, ?_⟩
    · simp [prodL]; rfl
    · simp
end Fe
