/-
  Contracts: a quoted text's tokens; items of an array; contracts; contract: the law LexQuotes. No condition.
-/
import Derived.Test.YtjgjfabmakkooaaGreatDoorFhJ
set_option linter.unusedSimpArgs false
set_option linter.unusedVariables false
open Go Go.Proofs
open Go.RowKit
namespace Fe
def b490 : C :=
 (.seq
 (.region false [
 oQ 2 (.mov (.c (.bool false)))])
 (.seq
 (.region false [
 oQ 3 (.mov (.t 0)),
 oQ 4 (.bin 0 .geq (.t 3) (.c (.int .i32 0))),
 oQ 5 (.mov (.t 4)),
 ⟨some 6, .op (.mov (.t 0)), some (5, true)⟩,
 ⟨some 7, .op (.bin 0 .leq (.t 6) (.c (.int .i32 1114111))), some (5, true)⟩,
 oQ 8 (.pick (.t 5) (.t 7) (.c (.bool false))),
 oQ 9 (.mov (.t 8)),
 ⟨some 10, .op (.mov (.t 0)), some (9, true)⟩,
 ⟨some 11, .op (.bin 0 .lss (.t 10) (.c (.int .i32 55296))), some (9, true)⟩,
 ⟨some 12, .op (.mov (.t 11)), some (9, true)⟩,
 ⟨some 13, .op (.mov (.t 0)), some (12, false)⟩,
 ⟨some 14, .op (.bin 0 .gtr (.t 13) (.c (.int .i32 57343))), some (12, false)⟩,
 ⟨some 15, .op (.pick (.t 12) (.c (.bool true)) (.t 14)), some (9, true)⟩,
 oQ 16 (.pick (.t 9) (.t 15) (.c (.bool false))),
 oQ 2 (.mov (.t 16))])
 .ret))
def c490 : CF := ⟨17, 1, [.mov (.t 2)], b490⟩
def b491 : C :=
 (.seq
 (.region false [
 oQ 1 (.box (.t 0)),
 oQ 2 (.mov (.c (.bool false)))])
 (.seq
 (.region false [
 oQ 3 (.faddr 1 (.t 1)),
 oQ 4 (.faddr 0 (.t 3)),
 oQ 5 (.load false 1 (.t 4)),
 oQ 6 (.un .not (.t 5)),
 oQ 7 (.mov (.t 6)),
 ⟨some 8, .op (.faddr 1 (.t 1)), some (7, true)⟩,
 ⟨some 9, .op (.faddr 1 (.t 8)), some (7, true)⟩,
 ⟨some 10, .op (.load false 1 (.t 9)), some (7, true)⟩,
 ⟨some 11, .op (.len false (.t 10)), some (7, true)⟩,
 ⟨some 12, .op (.bin 0 .eql (.t 11) (.c (.int .i64 0))), some (7, true)⟩,
 oQ 13 (.pick (.t 7) (.t 12) (.c (.bool false))),
 oQ 14 (.mov (.t 13)),
 ⟨some 15, .op (.faddr 1 (.t 1)), some (14, true)⟩,
 ⟨some 16, .op (.faddr 2 (.t 15)), some (14, true)⟩,
 ⟨some 17, .op (.load false 1 (.t 16)), some (14, true)⟩,
 ⟨some 18, .op (.len false (.t 17)), some (14, true)⟩,
 ⟨some 19, .op (.bin 0 .eql (.t 18) (.c (.int .i64 0))), some (14, true)⟩,
 oQ 20 (.pick (.t 14) (.t 19) (.c (.bool false))),
 oQ 2 (.mov (.t 20))])
 .ret))
def c491 : CF := ⟨21, 1, [.mov (.t 2)], b491⟩
def b492 : C :=
 (.seq
 (.region false [
 oQ 1 (.box (.t 0)),
 oQ 2 (.mov (.c (.bool false)))])
 (.seq
 (.region false [
 oQ 3 (.faddr 0 (.t 1)),
 oQ 4 (.load false 1 (.t 3)),
 oQ 5 (.len false (.t 4)),
 oQ 6 (.bin 0 .eql (.t 5) (.c (.int .i64 0))),
 oQ 7 (.mov (.t 6)),
 ⟨some 8, .op (.faddr 1 (.t 1)), some (7, true)⟩,
 ⟨some 9, .op (.load false 1 (.t 8)), some (7, true)⟩,
 ⟨some 10, .op (.len false (.t 9)), some (7, true)⟩,
 ⟨some 11, .op (.bin 0 .eql (.t 10) (.c (.int .i64 1))), some (7, true)⟩,
 oQ 12 (.pick (.t 7) (.t 11) (.c (.bool false))),
 oQ 13 (.mov (.t 12)),
 ⟨some 14, .op (.faddr 1 (.t 1)), some (13, true)⟩,
 ⟨some 15, .op (.load false 1 (.t 14)), some (13, true)⟩,
 ⟨some 16, .op (.iaddr 6 (.t 15) (.c (.int .i64 0))), some (13, true)⟩,
 ⟨some 17, .op (.faddr 0 (.t 16)), some (13, true)⟩,
 ⟨some 18, .op (.load false 1 (.t 17)), some (13, true)⟩,
 ⟨some 19, .op (.bin 0 .neq (.t 18) (.c (.int .u8 3))), some (13, true)⟩,
 oQ 20 (.pick (.t 13) (.t 19) (.c (.bool false))),
 oQ 2 (.mov (.t 20))])
 .ret))
def c492 : CF := ⟨21, 1, [.mov (.t 2)], b492⟩
def b425 : C :=
 (.seq
 (.region false [
 oQ 2 (.mov (.c (.int .i64 0))),
 oQ 3 (.mov (.c (.int .i64 0)))])
 (.seq
 (.seq
 (.region false [
 oQ 9 (.mov (.t 0)),
 oQ 10 (.len false (.t 9)),
 oQ 11 (.bin 0 .gtr (.t 10) (.c (.int .i64 8)))])
 (.cond (.t 11)
 (.seq
 (.region false [
 oQ 2 (.mov (.c (.int .i64 0))),
 oQ 3 (.mov (.c (.int .i64 4)))])
 .ret)
 .skip))
 (.seq
 (.region false [
 oQ 4 (.mov (.c (.bool false))),
 oQ 5 (.mov (.c (.bool false)))])
 (.seq
 (.seq
 (.region false [
 oQ 6 (.mov (.c (.int .i64 0)))])
 (.block 0
 (.loop
 (.seq
 (.seq
 (.region false [
 oQ 12 (.mov (.t 6)),
 oQ 13 (.mov (.t 0)),
 oQ 14 (.len false (.t 13)),
 oQ 15 (.bin 0 .lss (.t 12) (.t 14))])
 (.cond (.t 15)
 .skip
 (.exit 0)))
 (.seq
 (.block 1
 (.seq
 (.seq
 (.region false [
 oQ 18 (.mov (.t 0)),
 oQ 19 (.mov (.t 6)),
 oQ 20 (.iaddr 1 (.t 18) (.t 19)),
 oQ 21 (.load false 1 (.t 20)),
 oQ 22 (.bin 0 .lss (.t 21) (.c (.int .i64 0)))])
 (.cond (.t 22)
 (.seq
 (.region false [
 oQ 2 (.mov (.c (.int .i64 0))),
 oQ 3 (.mov (.c (.int .i64 3)))])
 .ret)
 .skip))
 (.seq
 (.region false [
 oQ 23 (.mov (.t 4)),
 oQ 24 (.mov (.t 23)),
 ⟨some 25, .op (.mov (.t 0)), some (24, false)⟩,
 ⟨some 26, .op (.mov (.t 6)), some (24, false)⟩,
 ⟨some 27, .op (.iaddr 1 (.t 25) (.t 26)), some (24, false)⟩,
 ⟨some 28, .op (.load false 1 (.t 27)), some (24, false)⟩,
 ⟨some 29, .op (.bin 0 .eql (.t 28) (.c (.int .i64 0))), some (24, false)⟩,
 oQ 30 (.pick (.t 24) (.c (.bool true)) (.t 29)),
 oQ 4 (.mov (.t 30))])
 (.region false [
 oQ 31 (.mov (.t 5)),
 oQ 32 (.mov (.t 31)),
 ⟨some 33, .op (.mov (.t 0)), some (32, false)⟩,
 ⟨some 34, .op (.mov (.t 6)), some (32, false)⟩,
 ⟨some 35, .op (.iaddr 1 (.t 33) (.t 34)), some (32, false)⟩,
 ⟨some 36, .op (.load false 1 (.t 35)), some (32, false)⟩,
 ⟨some 37, .op (.bin 0 .gtr (.t 36) (.c (.int .i64 4096))), some (32, false)⟩,
 oQ 38 (.pick (.t 32) (.c (.bool true)) (.t 37)),
 oQ 5 (.mov (.t 38))]))))
 (.region false [
 oQ 16 (.mov (.t 6)),
 oQ 17 (.bin 0 .add (.t 16) (.c (.int .i64 1))),
 oQ 6 (.mov (.t 17))]))))))
 (.seq
 (.seq
 (.region false [
 oQ 39 (.mov (.t 5))])
 (.cond (.t 39)
 (.seq
 (.region false [
 oQ 2 (.mov (.c (.int .i64 0))),
 oQ 3 (.mov (.c (.int .i64 8)))])
 .ret)
 .skip))
 (.seq
 (.seq
 (.region false [
 oQ 40 (.mov (.t 4))])
 (.cond (.t 40)
 (.seq
 (.region false [
 oQ 2 (.mov (.c (.int .i64 0))),
 oQ 3 (.mov (.c (.int .i64 0)))])
 .ret)
 .skip))
 (.seq
 (.region false [
 oQ 7 (.mov (.c (.int .i64 1)))])
 (.seq
 (.seq
 (.region false [
 oQ 8 (.mov (.c (.int .i64 0)))])
 (.block 2
 (.loop
 (.seq
 (.seq
 (.region false [
 oQ 41 (.mov (.t 8)),
 oQ 42 (.mov (.t 0)),
 oQ 43 (.len false (.t 42)),
 oQ 44 (.bin 0 .lss (.t 41) (.t 43))])
 (.cond (.t 44)
 .skip
 (.exit 2)))
 (.seq
 (.block 3
 (.seq
 (.seq
 (.region false [
 oQ 47 (.mov (.t 7)),
 oQ 48 (.mov (.t 0)),
 oQ 49 (.mov (.t 8)),
 oQ 50 (.iaddr 1 (.t 48) (.t 49)),
 oQ 51 (.load false 1 (.t 50)),
 oQ 52 (.bin 0 .mul (.t 47) (.t 51)),
 oQ 53 (.bin 0 .gtr (.t 52) (.c (.int .i64 4096)))])
 (.cond (.t 53)
 (.seq
 (.region false [
 oQ 2 (.mov (.c (.int .i64 0))),
 oQ 3 (.mov (.c (.int .i64 8)))])
 .ret)
 .skip))
 (.region false [
 oQ 54 (.mov (.t 7)),
 oQ 55 (.mov (.t 0)),
 oQ 56 (.mov (.t 8)),
 oQ 57 (.iaddr 1 (.t 55) (.t 56)),
 oQ 58 (.load false 1 (.t 57)),
 oQ 59 (.bin 0 .mul (.t 54) (.t 58)),
 oQ 7 (.mov (.t 59))])))
 (.region false [
 oQ 45 (.mov (.t 8)),
 oQ 46 (.bin 0 .add (.t 45) (.c (.int .i64 1))),
 oQ 8 (.mov (.t 46))]))))))
 (.seq
 (.region false [
 oQ 60 (.mov (.t 7)),
 oQ 2 (.mov (.t 60)),
 oQ 3 (.mov (.c (.int .i64 0)))])
 .ret)))))))))
def c425 : CF := ⟨61, 1, [.mov (.t 2), .mov (.t 3)], b425⟩
def b451 : C :=
 (.seq
 (.region false [
 oQ 1 (.box (.t 0)),
 oQ 2 (.box (.c (.agg [.int .u8 0, .bool false, .sl true [] 0, .sl true [] 0, .int .i32 0, .sl true [] 0])))])
 (.seq
 (.region true [
 oQ 5 (.faddr 0 (.t 1)),
 oQ 6 (.load false 1 (.t 5)),
 oQ 7 (.faddr 4 (.t 1)),
 oQ 8 (.load false 1 (.t 7)),
 oQ 9 (.faddr 1 (.t 1)),
 oQ 10 (.load true 3 (.t 9)),
 ⟨some 11, .callc (.c (.fn 81 [] [])) [.t 10], none⟩,
 oQ 12 (.build [.int .u8 0, .bool false, .sl true [] 0, .sl true [] 0, .int .i32 0, .sl true [] 0] [(0, (1, .t 6)), (4, (1, .t 8)), (1, (3, .t 11))]),
 oQ 3 (.box (.c (.agg [.int .u8 0, .bool false, .sl true [] 0, .sl true [] 0, .int .i32 0, .sl true [] 0]))),
 ⟨none, .op (.store 6 (.t 3) (.t 12)), none⟩])
 (.seq
 (.seq
 (.region false [
 oQ 4 (.mov (.c (.int .i64 0)))])
 (.block 0
 (.loop
 (.seq
 (.seq
 (.region false [
 oQ 13 (.mov (.t 4)),
 oQ 14 (.faddr 5 (.t 1)),
 oQ 15 (.load false 1 (.t 14)),
 oQ 16 (.len false (.t 15)),
 oQ 17 (.bin 0 .lss (.t 13) (.t 16))])
 (.cond (.t 17)
 .skip
 (.exit 0)))
 (.seq
 (.block 1
 (.region true [
 oQ 20 (.faddr 5 (.t 3)),
 oQ 21 (.load false 1 (.t 20)),
 oQ 22 (.faddr 5 (.t 1)),
 oQ 23 (.load false 1 (.t 22)),
 oQ 24 (.mov (.t 4)),
 oQ 25 (.iaddr 2 (.t 23) (.t 24)),
 oQ 26 (.load true 2 (.t 25)),
 ⟨some 27, .call true (.c (.fn 27 [] [])) [.t 26], none⟩,
 oQ 28 (.mksl [.sl true [] 0, .sl true [] 0] 1 [(0, (2, .t 27))]),
 oQ 29 (.append 2 48 (.t 21) (.t 28)),
 oQ 30 (.faddr 5 (.t 3)),
 ⟨none, .op (.store 1 (.t 30) (.t 29)), none⟩]))
 (.region false [
 oQ 18 (.mov (.t 4)),
 oQ 19 (.bin 0 .add (.t 18) (.c (.int .i64 1))),
 oQ 4 (.mov (.t 19))]))))))
 (.seq
 (.region false [
 oQ 31 (.load true 6 (.t 3)),
 ⟨none, .op (.store 6 (.t 2) (.t 31)), none⟩])
 .ret))))
def c451 : CF := ⟨32, 1, [.load true 6 (.t 2)], b451⟩
theorem s490 : stripF Go.Proofs.Tryz.prog 90 = some c490 := by kernel_rfl
theorem s491 : stripF Go.Proofs.Tryz.prog 91 = some c491 := by kernel_rfl
theorem s492 : stripF Go.Proofs.Tryz.prog 92 = some c492 := by kernel_rfl
theorem s425 : stripF Go.Proofs.Tryz.prog 25 = some c425 := by kernel_rfl
theorem s451 : stripF Go.Proofs.Tryz.prog 51 = some c451 := by kernel_rfl

/-! ### A text in quotes -/
def dblN : List Nat → List Nat
  | [] => []
  | c :: l => if c = 39 then 39 :: 39 :: dblN l else c :: dblN l
theorem enc39 : encL ((39 : Nat) : Int) = [39] := encL1 (by unfold charOK; omega) (by decide)
theorem enc_no39 {c : Nat} (hc : charOK c) (h : c ≠ 39) : ∀ b ∈ encL (c : Int), b ≠ 39 := by
  have hcc := hc
  unfold charOK at hcc
  have key : ∀ n, n < 256 → n ≠ 39 → UInt8.ofNat n ≠ 39 := fun n h1 h2 he => by
    have := congrArg UInt8.toNat he
    rw [toNat_of h1] at this
    have h3 : (39 : UInt8).toNat = 39 := by decide
    omega
  intro b hb
  by_cases h1 : c < 128
  · rw [encL1 hc h1] at hb
    rw [List.mem_singleton.1 hb]; exact key _ (by omega) h
  by_cases h2 : c < 2048
  · rw [encL2 hc h1 h2] at hb
    simp only [List.mem_cons,List.not_mem_nil,or_false] at hb
    rcases hb with rfl | rfl <;> exact key _ (by omega) (by omega)
  by_cases h3 : c < 65536
  · rw [encL3 hc h1 h2 h3] at hb
    simp only [List.mem_cons,List.not_mem_nil,or_false] at hb
    rcases hb with rfl | rfl | rfl <;> exact key _ (by omega) (by omega)
  · rw [encL4 hc h1 h2 h3] at hb
    simp only [List.mem_cons,List.not_mem_nil,or_false] at hb
    rcases hb with rfl | rfl | rfl | rfl <;> exact key _ (by omega) (by omega)
theorem dbl_no : ∀ (u : List UInt8), (∀ b ∈ u, b ≠ 39) → ∀ s, dbl (u ++ s) = u ++ dbl s
  | [], _, s => rfl
  | b :: u, h, s => by
    rw [List.cons_append, dbl, if_neg (h b (List.mem_cons_self ..)), dbl_no u (fun x hx => h x (List.mem_cons_of_mem _ hx)) s]; rfl
theorem dbl_encs : ∀ l : List Nat, (∀ c ∈ l, charOK c) → dbl (encs l) = encs (dblN l)
  | [], _ => rfl
  | c :: l, h => by
    have hc := h c (List.mem_cons_self ..)
    have ih := dbl_encs l fun x hx => h x (List.mem_cons_of_mem _ hx)
    rw [encs_cons, dblN]
    by_cases h39 : c = 39
    · rw [if_pos h39, h39, enc39, encs_cons, encs_cons, enc39, List.singleton_append, dbl, if_pos rfl, ih]; rfl
    · rw [if_neg h39, dbl_no _ (enc_no39 hc h39), ih, encs_cons]
theorem dblN_ok : ∀ l : List Nat, (∀ c ∈ l, charOK c) → ∀ c ∈ dblN l, charOK c
  | [], _, c, hc => (List.not_mem_nil hc).elim
  | d :: l, h, c, hc => by
    have ih := dblN_ok l fun x hx => h x (List.mem_cons_of_mem _ hx)
    rw [dblN] at hc
    split at hc
    · simp only [List.mem_cons] at hc
      rcases hc with rfl | rfl | hc
      · unfold charOK; omega
      · unfold charOK; omega
      · exact ih c hc
    · rcases List.mem_cons.1 hc with rfl | hc
      · exact h _ (List.mem_cons_self ..)
      · exact ih c hc
theorem textS_dbl : ∀ l : List Nat, textS (dblN l ++ [39]) = some (l, (dblN l).length + 1)
  | [] => textS_end rfl (by rintro d r h; cases h)
  | c :: l => by
    rw [dblN]
    by_cases h : c = 39
    · rw [if_pos h, List.cons_append, List.cons_append, textS_two, textS_dbl l, h]; rfl
    · rw [if_neg h, List.cons_append, textS_other h, textS_dbl l]; rfl

theorem strip_no : ∀ (u : List UInt8), (∀ b ∈ u, b ≠ 39) → ∀ (s Z : List UInt8), dbl s ++ [39] = u ++ Z → ∃ s', s = u ++ s' ∧ dbl s' ++ [39] = Z
  | [], _, s, Z, h => ⟨s, rfl, h⟩
  | b :: u, hu, s, Z, h => by
    have hb := hu b (List.mem_cons_self ..)
    cases s with
    | nil =>
      rw [dbl, List.nil_append, List.cons_append] at h
      exact absurd (List.cons.inj h).1.symm hb
    | cons a s =>
      rw [dbl] at h
      by_cases ha : a = 39
      · rw [if_pos ha, List.cons_append, List.cons_append] at h
        exact absurd (List.cons.inj h).1.symm hb
      · rw [if_neg ha, List.cons_append, List.cons_append] at h
        obtain ⟨h1, h2⟩ := List.cons.inj h
        obtain ⟨s', h3, h4⟩ := strip_no u (fun x hx => hu x (List.mem_cons_of_mem _ hx)) s Z h2
        exact ⟨s', by rw [h1, h3]; rfl, h4⟩
theorem first39 {c : Nat} {X : List UInt8} {Y : List UInt8} (hc : charOK c) (h : 39 :: X = encL (c : Int) ++ Y) : c = 39 := by
  by_cases h39 : c = 39
  · exact h39
  · have hn := enc_no39 hc h39
    have hp := encL_pos c hc
    cases he : encL (c : Int) with
    | nil => exact absurd he hp
    | cons a r =>
      rw [he, List.cons_append] at h
      have := hn a (by rw [he]; exact List.mem_cons_self ..)
      exact absurd (List.cons.inj h).1.symm this
theorem undbl : ∀ (n : Nat) (Y : List Nat), Y.length ≤ n → (∀ c ∈ Y, charOK c) → ∀ s : List UInt8, dbl s ++ [39] = encs Y → ∃ X : List Nat, (∀ c ∈ X, charOK c) ∧ s = encs X
  | _, [], _, _, s, h => by simp [encs] at h
  | 0, c :: Y, hn, _, s, h => by simp at hn
  | n + 1, c :: Y, hn, hY, s, h => by
    have hc := hY c (List.mem_cons_self ..)
    have hY' : ∀ x ∈ Y, charOK x := fun x hx => hY x (List.mem_cons_of_mem _ hx)
    rw [encs_cons] at h
    by_cases h39 : c = 39
    · rw [h39, enc39, List.singleton_append] at h
      cases s with
      | nil => exact ⟨[], fun c hc => (List.not_mem_nil hc).elim, rfl⟩
      | cons b s =>
        rw [dbl] at h
        by_cases hb : b = 39
        · rw [if_pos hb, List.cons_append, List.cons_append] at h
          have h2 := (List.cons.inj h).2
          cases Y with
          | nil => simp [encs] at h2
          | cons d Y =>
            rw [encs_cons] at h2
            have hd := first39 (hY' d (List.mem_cons_self ..)) h2
            rw [hd, enc39, List.singleton_append] at h2
            obtain ⟨X, h3, h4⟩ := undbl n Y (by simp at hn; omega) (fun x hx => hY' x (List.mem_cons_of_mem _ hx)) s (List.cons.inj h2).2
            refine ⟨39 :: X, fun x hx => ?_, by rw [encs_cons, enc39, hb, h4]; rfl⟩
            rcases List.mem_cons.1 hx with rfl | hx
            · unfold charOK; omega
            · exact h3 x hx
        · rw [if_neg hb, List.cons_append] at h
          exact absurd (List.cons.inj h).1 hb
    · obtain ⟨s', h1, h2⟩ := strip_no _ (enc_no39 hc h39) s _ h
      obtain ⟨X, h3, h4⟩ := undbl n Y (by simp at hn; omega) hY' s' h2
      refine ⟨c :: X, fun x hx => ?_, by rw [h1, h4, encs_cons]⟩
      rcases List.mem_cons.1 hx with rfl | hx
      · exact hc
      · exact h3 x hx

/-- A text whose quotes are characters is characters. -/
theorem quote_bad (s : List UInt8) (h : bad (quoteB s) = none) : bad s = none := by
  have hq := enc_rn _ _ (Nat.le_refl _) h
  have hok := rn_ok (quoteB s).length (quoteB s)
  have hr : runesL (quoteB s).length (quoteB s) = rn (quoteB s) := rfl
  rw [hr] at hok
  generalize rn (quoteB s) = Y at *
  cases Y with
  | nil => simp [encs, quoteB] at hq
  | cons c Y =>
    rw [encs_cons, quoteB] at hq
    have hc := first39 (hok c (List.mem_cons_self ..)) hq.symm
    rw [hc, enc39, List.singleton_append] at hq
    obtain ⟨X, h1, h2⟩ := undbl _ Y (Nat.le_refl _) (fun x hx => hok x (List.mem_cons_of_mem _ hx)) s (List.cons.inj hq).2.symm
    rw [h2]
    exact bad_encs X h1

def textA (rs : List Nat) : V × V := if rs.length = 1 then (.sl false [] 0, .sl false (itemC (rs.headD 0)) 1) else (.sl false [.int .i64 (rs.length : Nat)] 1, .sl false (textItems rs) (if rs = [] then 1 else rs.length))

/-- What its tokens are. -/
theorem quote_all (s : List UInt8) (hb : bad s = none) (hl : (quoteB s).length ≤ 1024) : ∃ j : Nat, allR (quoteB s) = .tup [.sl false (tokC 2 (quoteB s) 0 (textA (rn s)).1 (textA (rn s)).2 ++ endTok j) 2, .int .i64 0, .int .i64 0] := by
  have hs := enc_rn _ s (Nat.le_refl _) hb
  have hok := rn_ok s.length s
  have hr : runesL s.length s = rn s := rfl
  rw [hr] at hok
  generalize rn s = rs at *
  have hQ : quoteB s = encs (39 :: (dblN rs ++ [39])) := by
    rw [encs_cons, encs_app, ← dbl_encs rs hok, hs, enc39, quoteB]
    rfl
  have hQok : ∀ c ∈ 39 :: (dblN rs ++ [39]), charOK c := by
    intro c hc
    simp only [List.mem_cons,List.mem_append,List.not_mem_nil,or_false] at hc
    rcases hc with rfl | hc | rfl
    · unfold charOK; omega
    · exact dblN_ok rs hok c hc
    · unfold charOK; omega
  have hrn := rn_encs _ hQok
  have hbq := bad_encs _ hQok
  have hrs := rn_encs rs hok
  rw [← hQ] at hrn hbq
  have hlen : (39 :: (dblN rs ++ [39])).length = 1 + ((dblN rs).length + 1) := by simp; omega
  have htok : tokenS (39 :: (dblN rs ++ [39])) = .ok 2 (1 + ((dblN rs).length + 1)) (textA rs).1 (textA rs).2 := by
    rw [tokenS, if_neg (by decide), if_pos rfl, textTok, textS_dbl]
    simp only [hrs]
    by_cases h1 : rs.length = 1
    · rw [if_pos h1, textA, if_pos h1]
    · rw [if_neg h1, textA, if_neg h1]
  refine ⟨0 + 0 + (1 + ((dblN rs).length + 1)) + 0, ?_⟩
  rw [allR, if_neg (by omega), hbq, hrn, lexL]
  have hbl : blankC 39 = false := rfl
  simp only [List.dropWhile_cons,List.takeWhile_cons,hbl,Bool.false_eq_true,if_false,List.length_nil]
  rw [if_neg (by decide), htok]
  have hdrop : (39 :: (dblN rs ++ [39])).drop (1 + ((dblN rs).length + 1)) = [] := List.drop_eq_nil_of_le (by rw [hlen]; exact Nat.le_refl _)
  have htake : (39 :: (dblN rs ++ [39])).take (1 + ((dblN rs).length + 1)) = 39 :: (dblN rs ++ [39]) := List.take_of_length_le (by rw [hlen]; exact Nat.le_refl _)
  simp only [hdrop,htake,hlen,← hQ]
  rw [show 1 + ((dblN rs).length + 1) = (dblN rs).length + 1 + 1 by omega, lexL]
  simp only [List.dropWhile_nil,List.takeWhile_nil,List.length_nil]
  simp

/-! ### Arrays of characters, by the reference -/
theorem good490 (c : Nat) (h : charOK c) : Good Go.Proofs.Tryz.prog 90 [.int .i32 c] (.bool true) := by
  refine good_go mix s490 (Nat.le_of_ble_eq_true rfl) fun e he => ?_
  have e0 : e 0 = .int .i32 c := he 0
  clear he
  unfold charOK at h
  simp only [c490,b490, oQ]
  by_cases h1 : c < 55296
  · simp -implicitDefEqProofs (disch := omega) only [↓ZD,ZP,cnd_t,cnd_f,↓reduceIte,Env.put,stepO,lenV,binV,binInt,unV,loadV,sliceV,boundOf,convV,slstrV,if_pos,if_neg,Int.reduceToNat,Nat.reducePow,V.cells,V.isCell,V.boxable,Nat.reduceEqDiff,reduceCtorEq,reduceIte,ite_self,enterEnv,e0]
    exact gives_eq rfl rfl
  · simp -implicitDefEqProofs (disch := omega) only [↓ZD,ZP,cnd_t,cnd_f,↓reduceIte,Env.put,stepO,lenV,binV,binInt,unV,loadV,sliceV,boundOf,convV,slstrV,if_pos,if_neg,Int.reduceToNat,Nat.reducePow,V.cells,V.isCell,V.boxable,Nat.reduceEqDiff,reduceCtorEq,reduceIte,ite_self,enterEnv,e0]
    exact gives_eq rfl rfl
theorem good491 (c : Nat) : Good Go.Proofs.Tryz.prog 91 [.agg (itemC c)] (.bool true) := by
  refine good_go mix s491 (Nat.le_of_ble_eq_true rfl) fun e he => ?_
  have e0 : e 0 = .agg (itemC c) := he 0
  clear he
  simp only [c491,b491, oQ]
  simp -implicitDefEqProofs (disch := omega) only [↓ZD,ZP,cnd_t,cnd_f,↓reduceIte,Env.put,stepO,lenV,binV,binInt,unV,loadV,sliceV,boundOf,convV,slstrV,if_pos,if_neg,Int.reduceToNat,Nat.reducePow,V.cells,V.isCell,V.boxable,Nat.reduceEqDiff,reduceCtorEq,reduceIte,ite_self,enterEnv,e0,itemC,fillL,evParts,splice,List.take_zero,List.take_succ_cons,List.drop_succ_cons,List.drop_zero,List.drop_nil,loadV]
  exact gives_eq rfl rfl
theorem good492a (ea eb : Bool) (c : Nat) : Good Go.Proofs.Tryz.prog 92 [.agg [.sl ea [] 0, .sl eb (itemC c) 1]] (.bool true) := by
  refine good_go mix s492 (Nat.le_of_ble_eq_true rfl) fun e he => ?_
  have e0 : e 0 = .agg [.sl ea [] 0, .sl eb (itemC c) 1] := he 0
  clear he
  simp only [c492,b492, oQ]
  simp -implicitDefEqProofs (disch := omega) only [↓ZD,ZP,cnd_t,cnd_f,↓reduceIte,Env.put,stepO,lenV,binV,binInt,unV,loadV,sliceV,boundOf,convV,slstrV,if_pos,if_neg,Int.reduceToNat,Nat.reducePow,V.cells,V.isCell,V.boxable,Nat.reduceEqDiff,reduceCtorEq,reduceIte,ite_self,enterEnv,e0,itemC,fillL,evParts,splice,List.take_zero,List.take_succ_cons,List.drop_succ_cons,List.drop_zero,List.drop_nil,loadV,Nat.zero_mul,bne_self_eq_false]
  exact gives_eq rfl rfl
theorem good492b (ea eb : Bool) (n m : Nat) (L : List V) : Good Go.Proofs.Tryz.prog 92 [.agg [.sl ea [.int .i64 (n : Nat)] 1, .sl eb L m]] (.bool false) := by
  refine good_go mix s492 (Nat.le_of_ble_eq_true rfl) fun e he => ?_
  have e0 : e 0 = .agg [.sl ea [.int .i64 (n : Nat)] 1, .sl eb L m] := he 0
  clear he
  simp only [c492,b492, oQ]
  simp -implicitDefEqProofs (disch := omega) only [↓ZD,ZP,cnd_t,cnd_f,↓reduceIte,Env.put,stepO,lenV,binV,binInt,unV,loadV,sliceV,boundOf,convV,slstrV,if_pos,if_neg,Int.reduceToNat,Nat.reducePow,V.cells,V.isCell,V.boxable,Nat.reduceEqDiff,reduceCtorEq,reduceIte,ite_self,enterEnv,e0,fillL,evParts,splice,List.take_zero,List.take_succ_cons,List.drop_succ_cons,List.drop_zero,List.drop_nil,loadV]
  exact gives_eq rfl rfl
theorem good425a (ea : Bool) : Good Go.Proofs.Tryz.prog 25 [.sl ea [] 0] (.tup [.int .i64 1, .int .i64 0]) := by
  refine good_go mix s425 (Nat.le_of_ble_eq_true rfl) fun e he => ?_
  have e0 : e 0 = .sl ea [] 0 := he 0
  clear he
  simp only [c425,b425, oQ]
  simp -implicitDefEqProofs (disch := omega) only [↓ZD,ZP,cnd_t,cnd_f,↓reduceIte,Env.put,stepO,lenV,binV,binInt,unV,loadV,sliceV,boundOf,convV,slstrV,if_pos,if_neg,Int.reduceToNat,Nat.reducePow,V.cells,V.isCell,V.boxable,Nat.reduceEqDiff,reduceCtorEq,reduceIte,ite_self,enterEnv,e0]
  refine go_loop (fun m e H => e 0 = .sl ea [] 0 ∧ e 4 = .bool false ∧ e 5 = .bool false ∧ e 6 = .int .i64 0) 0 ⟨by simp [Env.set, e0], by simp [Env.set], by simp [Env.set], by simp [Env.set]⟩ ?_
  clear e0
  rintro m e H ⟨e0, e4, e5, e6⟩
  simp -implicitDefEqProofs (disch := omega) only [↓ZD,ZP,cnd_t,cnd_f,↓reduceIte,Env.put,stepO,lenV,binV,binInt,unV,loadV,sliceV,boundOf,convV,slstrV,if_pos,if_neg,Int.reduceToNat,Nat.reducePow,V.cells,V.isCell,V.boxable,Nat.reduceEqDiff,reduceCtorEq,reduceIte,ite_self,enterEnv,e0,e4,e5,e6]
  refine go_loop (fun m e H => e 0 = .sl ea [] 0 ∧ e 7 = .int .i64 1 ∧ e 8 = .int .i64 0) 0 ⟨by simp [Env.set, e0], by simp [Env.set], by simp [Env.set]⟩ ?_
  clear e0 e4 e5 e6
  rintro m e H ⟨e0, e7, e8⟩
  simp -implicitDefEqProofs (disch := omega) only [↓ZD,ZP,cnd_t,cnd_f,↓reduceIte,Env.put,stepO,lenV,binV,binInt,unV,loadV,sliceV,boundOf,convV,slstrV,if_pos,if_neg,Int.reduceToNat,Nat.reducePow,V.cells,V.isCell,V.boxable,Nat.reduceEqDiff,reduceCtorEq,reduceIte,ite_self,enterEnv,e0,e7,e8]
  exact gives_eq rfl rfl

theorem good425b (ea : Bool) (n : Nat) (hn : 1 ≤ n) (hm : n ≤ 4096) : Good Go.Proofs.Tryz.prog 25 [.sl ea [.int .i64 (n : Nat)] 1] (.tup [.int .i64 (n : Nat), .int .i64 0]) := by
  refine good_go mix s425 (Nat.le_of_ble_eq_true rfl) fun e he => ?_
  have e0 : e 0 = .sl ea [.int .i64 (n : Nat)] 1 := he 0
  clear he
  simp only [c425,b425, oQ]
  simp -implicitDefEqProofs (disch := omega) only [↓ZD,ZP,cnd_t,cnd_f,↓reduceIte,Env.put,stepO,lenV,binV,binInt,unV,loadV,sliceV,boundOf,convV,slstrV,if_pos,if_neg,Int.reduceToNat,Nat.reducePow,V.cells,V.isCell,V.boxable,Nat.reduceEqDiff,reduceCtorEq,reduceIte,ite_self,enterEnv,e0]
  refine go_loop (fun m e H => ∃ i : Nat, i ≤ 1 ∧ m = 1 - i ∧ e 0 = .sl ea [.int .i64 (n : Nat)] 1 ∧ e 4 = .bool false ∧ e 5 = .bool false ∧ e 6 = .int .i64 (i : Nat)) 1 ⟨0, by decide, rfl, by simp [Env.set, e0], by simp [Env.set], by simp [Env.set], by simp [Env.set]⟩ ?_
  clear e0
  rintro m e H ⟨i, hi, rfl, e0, e4, e5, e6⟩
  rcases (by omega : i = 0 ∨ i = 1) with rfl | rfl
  · simp -implicitDefEqProofs (disch := omega) only [↓ZD,ZP,cnd_t,cnd_f,↓reduceIte,Env.put,stepO,lenV,binV,binInt,unV,loadV,sliceV,boundOf,convV,slstrV,if_pos,if_neg,Int.reduceToNat,Nat.reducePow,V.cells,V.isCell,V.boxable,Nat.reduceEqDiff,reduceCtorEq,reduceIte,ite_self,enterEnv,e0,e4,e5,e6]
    exact ⟨0, by decide, 1, Nat.le_refl _, rfl, rfl⟩
  · simp -implicitDefEqProofs (disch := omega) only [↓ZD,ZP,cnd_t,cnd_f,↓reduceIte,Env.put,stepO,lenV,binV,binInt,unV,loadV,sliceV,boundOf,convV,slstrV,if_pos,if_neg,Int.reduceToNat,Nat.reducePow,V.cells,V.isCell,V.boxable,Nat.reduceEqDiff,reduceCtorEq,reduceIte,ite_self,enterEnv,e0,e4,e5,e6]
    refine go_loop (fun m e H => ∃ i k : Nat, ((i = 0 ∧ k = 1) ∨ (i = 1 ∧ k = n)) ∧ m = 1 - i ∧ e 0 = .sl ea [.int .i64 (n : Nat)] 1 ∧ e 7 = .int .i64 (k : Nat) ∧ e 8 = .int .i64 (i : Nat)) 1 ⟨0, 1, .inl ⟨rfl, rfl⟩, rfl, by simp [Env.set, e0], by simp [Env.set], by simp [Env.set]⟩ ?_
    clear e0 e4 e5 e6
    rintro m e H ⟨i, k, hik, rfl, e0, e7, e8⟩
    rcases hik with ⟨rfl, rfl⟩ | ⟨rfl, rfl⟩
    · have h1 : ((1 : Nat) : Int) * ((n : Nat) : Int) = ((n : Nat) : Int) := by omega
      simp -implicitDefEqProofs (disch := omega) only [↓ZD,ZP,cnd_t,cnd_f,↓reduceIte,Env.put,stepO,lenV,binV,binInt,unV,loadV,sliceV,boundOf,convV,slstrV,if_pos,if_neg,Int.reduceToNat,Nat.reducePow,V.cells,V.isCell,V.boxable,Nat.reduceEqDiff,reduceCtorEq,reduceIte,ite_self,enterEnv,e0,e7,e8,h1]
      exact ⟨0, by decide, 1, n, .inr ⟨rfl, rfl⟩, rfl, rfl, rfl⟩
    · simp -implicitDefEqProofs (disch := omega) only [↓ZD,ZP,cnd_t,cnd_f,↓reduceIte,Env.put,stepO,lenV,binV,binInt,unV,loadV,sliceV,boundOf,convV,slstrV,if_pos,if_neg,Int.reduceToNat,Nat.reducePow,V.cells,V.isCell,V.boxable,Nat.reduceEqDiff,reduceCtorEq,reduceIte,ite_self,enterEnv,e0,e7,e8]
      exact gives_eq rfl rfl
theorem good425c (ea : Bool) : Good Go.Proofs.Tryz.prog 25 [.sl ea [.int .i64 ((0 : Nat) : Int)] 1] (.tup [.int .i64 0, .int .i64 0]) := by
  refine good_go mix s425 (Nat.le_of_ble_eq_true rfl) fun e he => ?_
  have e0 : e 0 = .sl ea [.int .i64 ((0 : Nat) : Int)] 1 := he 0
  clear he
  simp only [c425,b425, oQ]
  simp -implicitDefEqProofs (disch := omega) only [↓ZD,ZP,cnd_t,cnd_f,↓reduceIte,Env.put,stepO,lenV,binV,binInt,unV,loadV,sliceV,boundOf,convV,slstrV,if_pos,if_neg,Int.reduceToNat,Nat.reducePow,V.cells,V.isCell,V.boxable,Nat.reduceEqDiff,reduceCtorEq,reduceIte,ite_self,enterEnv,e0]
  refine go_loop (fun m e H => ∃ (i : Nat) (b : Bool), ((i = 0 ∧ b = false) ∨ (i = 1 ∧ b = true)) ∧ m = 1 - i ∧ e 0 = .sl ea [.int .i64 ((0 : Nat) : Int)] 1 ∧ e 4 = .bool b ∧ e 5 = .bool false ∧ e 6 = .int .i64 (i : Nat)) 1 ⟨0, false, .inl ⟨rfl, rfl⟩, rfl, by simp [Env.set, e0], by simp [Env.set], by simp [Env.set], by simp [Env.set]⟩ ?_
  clear e0
  rintro m e H ⟨i, b, hib, rfl, e0, e4, e5, e6⟩
  rcases hib with ⟨rfl, rfl⟩ | ⟨rfl, rfl⟩
  · simp -implicitDefEqProofs (disch := omega) only [↓ZD,ZP,cnd_t,cnd_f,↓reduceIte,Env.put,stepO,lenV,binV,binInt,unV,loadV,sliceV,boundOf,convV,slstrV,if_pos,if_neg,Int.reduceToNat,Nat.reducePow,V.cells,V.isCell,V.boxable,Nat.reduceEqDiff,reduceCtorEq,reduceIte,ite_self,enterEnv,e0,e4,e5,e6]
    exact ⟨0, by decide, 1, true, .inr ⟨rfl, rfl⟩, rfl, rfl, rfl⟩
  · simp -implicitDefEqProofs (disch := omega) only [↓ZD,ZP,cnd_t,cnd_f,↓reduceIte,Env.put,stepO,lenV,binV,binInt,unV,loadV,sliceV,boundOf,convV,slstrV,if_pos,if_neg,Int.reduceToNat,Nat.reducePow,V.cells,V.isCell,V.boxable,Nat.reduceEqDiff,reduceCtorEq,reduceIte,ite_self,enterEnv,e0,e4,e5,e6]
    exact gives_eq rfl rfl

/-- What a copy of a character is. -/
def itemQ (c : Nat) : List V := [.int .u8 2, .bool false, .sl false [] 0, .sl false [] 0, .int .i32 c, .sl true [] 0]
theorem good451 (c : Nat) : Good Go.Proofs.Tryz.prog 51 [.agg (itemC c)] (.agg (itemQ c)) := by
  refine good_go mix s451 (Nat.le_of_ble_eq_true rfl) fun e he => ?_
  have e0 : e 0 = .agg (itemC c) := he 0
  clear he
  simp only [c451,b451, oQ]
  have hg := good481 false false false [] [] (by simp) (by simp)
  simp -implicitDefEqProofs (disch := omega) only [↓ZD,ZP,cnd_t,cnd_f,↓reduceIte,Env.put,stepO,lenV,binV,binInt,unV,loadV,sliceV,boundOf,convV,slstrV,if_pos,if_neg,Int.reduceToNat,Nat.reducePow,V.cells,V.isCell,V.boxable,Nat.reduceEqDiff,reduceCtorEq,reduceIte,ite_self,enterEnv,e0,itemC,fillL,evParts,splice,List.take_zero,List.take_succ_cons,List.drop_succ_cons,List.drop_zero,List.drop_nil,loadV]
  refine calC_ro rfl hg rfl ?_
  simp -implicitDefEqProofs (disch := omega) only [↓ZD,ZP,cnd_t,cnd_f,↓reduceIte,Env.put,stepO,lenV,binV,binInt,unV,loadV,sliceV,boundOf,convV,slstrV,if_pos,if_neg,Int.reduceToNat,Nat.reducePow,V.cells,V.isCell,V.boxable,Nat.reduceEqDiff,reduceCtorEq,reduceIte,ite_self,enterEnv,e0,nf,nsl,nl_nil,fillL,evParts,splice,List.take_zero,List.take_succ_cons,List.drop_succ_cons,List.drop_zero,List.drop_nil,loadV]
  refine go_loop (fun m e H => H = [.cells 0 0 true [.int .u8 2, .bool false, .sl false [] 0, .sl false [] 0, .int .i32 c, .sl false [] 0], .cells 0 0 true [.int .u8 0, .bool false, .sl true [] 0, .sl true [] 0, .int .i32 0, .sl true [] 0], .cells 0 0 true (itemQ c)] ∧ e 1 = .cell 0 0 0 ∧ e 2 = .cell 1 0 0 ∧ e 3 = .cell 2 0 0 ∧ e 4 = .int .i64 0) 0 ⟨rfl, by simp [Env.set], by simp [Env.set], by simp [Env.set], by simp [Env.set]⟩ ?_
  clear e0
  rintro m e H ⟨rfl, e1, e2, e3, e4⟩
  simp -implicitDefEqProofs (disch := omega) only [↓ZD,ZP,cnd_t,cnd_f,↓reduceIte,Env.put,stepO,lenV,binV,binInt,unV,loadV,sliceV,boundOf,convV,slstrV,if_pos,if_neg,Int.reduceToNat,Nat.reducePow,V.cells,V.isCell,V.boxable,Nat.reduceEqDiff,reduceCtorEq,reduceIte,ite_self,enterEnv,e1,e2,e3,e4,itemQ,fillL,evParts,splice,List.take_zero,List.take_succ_cons,List.drop_succ_cons,List.drop_zero,List.drop_nil,loadV]
  exact gives_ro rfl
end Fe
open Go Go.Proofs
open Go.RowKit
namespace Fe
def b450 : C :=
 (.seq
 (.region false [
 oQ 3 (.box (.t 0)),
 oQ 6 (.mov (.c (.bool false))),
 oQ 7 (.mov (.c (.int .i64 0))),
 oQ 8 (.mov (.c (.int .i64 0)))])
 (.seq
 (.region false [
 oQ 19 (.faddr 0 (.t 3)),
 oQ 20 (.load false 1 (.t 19)),
 ⟨some 21, .call false (.c (.fn 25 [] [])) [.t 20], none⟩,
 oQ 18 (.mov (.t 21)),
 oQ 22 (.extract (.t 18) 0),
 oQ 23 (.extract (.t 18) 1),
 oQ 9 (.mov (.t 22)),
 oQ 10 (.mov (.t 23))])
 (.seq
 (.seq
 (.region false [
 oQ 24 (.mov (.t 10)),
 oQ 25 (.bin 0 .neq (.t 24) (.c (.int .i64 0))),
 oQ 26 (.mov (.t 25)),
 ⟨some 27, .op (.mov (.t 1)), some (26, false)⟩,
 ⟨some 28, .op (.bin 0 .gtr (.t 27) (.c (.int .i64 16))), some (26, false)⟩,
 oQ 29 (.pick (.t 26) (.c (.bool true)) (.t 28))])
 (.cond (.t 29)
 (.seq
 (.region false [
 oQ 6 (.mov (.c (.bool false))),
 oQ 7 (.mov (.c (.int .i64 0))),
 oQ 8 (.mov (.c (.int .i64 0)))])
 .ret)
 .skip))
 (.seq
 (.seq
 (.region false [
 oQ 30 (.mov (.t 9)),
 oQ 31 (.bin 0 .eql (.t 30) (.c (.int .i64 0)))])
 (.cond (.t 31)
 (.region false [
 oQ 9 (.mov (.c (.int .i64 1)))])
 .skip))
 (.seq
 (.seq
 (.region false [
 oQ 32 (.faddr 1 (.t 3)),
 oQ 33 (.load false 1 (.t 32)),
 oQ 34 (.len false (.t 33)),
 oQ 35 (.mov (.t 9)),
 oQ 36 (.bin 0 .neq (.t 34) (.t 35)),
 oQ 37 (.mov (.t 36)),
 ⟨some 38, .op (.mov (.t 9)), some (37, false)⟩,
 ⟨some 39, .op (.mov (.t 2)), some (37, false)⟩,
 ⟨some 40, .op (.bin 0 .gtr (.t 38) (.t 39)), some (37, false)⟩,
 oQ 41 (.pick (.t 37) (.c (.bool true)) (.t 40))])
 (.cond (.t 41)
 (.seq
 (.region false [
 oQ 6 (.mov (.c (.bool false))),
 oQ 7 (.mov (.c (.int .i64 0))),
 oQ 8 (.mov (.c (.int .i64 0)))])
 .ret)
 .skip))
 (.seq
 (.region false [
 oQ 11 (.mov (.c (.int .i64 0)))])
 (.seq
 (.region false [
 oQ 42 (.mov (.t 9)),
 oQ 12 (.mov (.t 42))])
 (.seq
 (.seq
 (.region false [
 oQ 13 (.mov (.c (.int .i64 0)))])
 (.block 0
 (.loop
 (.seq
 (.seq
 (.region false [
 oQ 43 (.mov (.t 13)),
 oQ 44 (.faddr 1 (.t 3)),
 oQ 45 (.load false 1 (.t 44)),
 oQ 46 (.len false (.t 45)),
 oQ 47 (.bin 0 .lss (.t 43) (.t 46))])
 (.cond (.t 47)
 .skip
 (.exit 0)))
 (.seq
 (.block 1
 (.seq
 (.region false [
 oQ 50 (.faddr 1 (.t 3)),
 oQ 51 (.load false 1 (.t 50)),
 oQ 52 (.mov (.t 13)),
 oQ 53 (.iaddr 6 (.t 51) (.t 52)),
 oQ 54 (.load true 6 (.t 53)),
 oQ 14 (.box (.c (.agg [.int .u8 0, .bool false, .sl true [] 0, .sl true [] 0, .int .i32 0, .sl true [] 0]))),
 ⟨none, .op (.store 6 (.t 14) (.t 54)), none⟩])
 (.block 2
 (.seq
 (.region false [
 oQ 56 (.faddr 0 (.t 14)),
 oQ 57 (.load false 1 (.t 56)),
 oQ 58 (.bin 0 .eql (.t 57) (.c (.int .u8 1))),
 oQ 59 (.mov (.t 58)),
 ⟨some 60, .op (.faddr 1 (.t 14)), some (59, true)⟩,
 ⟨some 61, .op (.load true 3 (.t 60)), some (59, true)⟩,
 ⟨some 62, .call false (.c (.fn 89 [] [])) [.t 61], some (59, true)⟩,
 oQ 63 (.pick (.t 59) (.t 62) (.c (.bool false))),
 oQ 64 (.mov (.t 63)),
 ⟨some 65, .op (.faddr 4 (.t 14)), some (64, true)⟩,
 ⟨some 66, .op (.load false 1 (.t 65)), some (64, true)⟩,
 ⟨some 67, .op (.bin 0 .eql (.t 66) (.c (.int .i32 0))), some (64, true)⟩,
 oQ 68 (.pick (.t 64) (.t 67) (.c (.bool false))),
 oQ 69 (.mov (.t 68)),
 ⟨some 70, .op (.faddr 5 (.t 14)), some (69, true)⟩,
 ⟨some 71, .op (.load false 1 (.t 70)), some (69, true)⟩,
 ⟨some 72, .op (.len false (.t 71)), some (69, true)⟩,
 ⟨some 73, .op (.bin 0 .eql (.t 72) (.c (.int .i64 0))), some (69, true)⟩,
 oQ 74 (.pick (.t 69) (.t 73) (.c (.bool false))),
 oQ 55 (.mov (.t 74))])
 (.cond (.t 55)
 .skip
 (.seq
 (.region false [
 oQ 76 (.faddr 0 (.t 14)),
 oQ 77 (.load false 1 (.t 76)),
 oQ 78 (.bin 0 .eql (.t 77) (.c (.int .u8 2))),
 oQ 79 (.mov (.t 78)),
 ⟨some 80, .op (.faddr 4 (.t 14)), some (79, true)⟩,
 ⟨some 81, .op (.load false 1 (.t 80)), some (79, true)⟩,
 ⟨some 82, .call false (.c (.fn 90 [] [])) [.t 81], some (79, true)⟩,
 oQ 83 (.pick (.t 79) (.t 82) (.c (.bool false))),
 oQ 84 (.mov (.t 83)),
 ⟨some 85, .op (.load true 6 (.t 14)), some (84, true)⟩,
 ⟨some 86, .call false (.c (.fn 91 [] [])) [.t 85], some (84, true)⟩,
 oQ 87 (.pick (.t 84) (.t 86) (.c (.bool false))),
 oQ 88 (.mov (.t 87)),
 ⟨some 89, .op (.faddr 5 (.t 14)), some (88, true)⟩,
 ⟨some 90, .op (.load false 1 (.t 89)), some (88, true)⟩,
 ⟨some 91, .op (.len false (.t 90)), some (88, true)⟩,
 ⟨some 92, .op (.bin 0 .eql (.t 91) (.c (.int .i64 0))), some (88, true)⟩,
 oQ 93 (.pick (.t 88) (.t 92) (.c (.bool false))),
 oQ 75 (.mov (.t 93))])
 (.cond (.t 75)
 .skip
 (.seq
 (.region false [
 oQ 95 (.faddr 0 (.t 14)),
 oQ 96 (.load false 1 (.t 95)),
 oQ 97 (.bin 0 .eql (.t 96) (.c (.int .u8 3))),
 oQ 98 (.mov (.t 97)),
 ⟨some 99, .op (.faddr 5 (.t 14)), some (98, true)⟩,
 ⟨some 100, .op (.load false 1 (.t 99)), some (98, true)⟩,
 ⟨some 101, .op (.len false (.t 100)), some (98, true)⟩,
 ⟨some 102, .op (.bin 0 .eql (.t 101) (.c (.int .i64 1))), some (98, true)⟩,
 oQ 103 (.pick (.t 98) (.t 102) (.c (.bool false))),
 oQ 104 (.mov (.t 103)),
 ⟨some 105, .op (.load true 6 (.t 14)), some (104, true)⟩,
 ⟨some 106, .call false (.c (.fn 91 [] [])) [.t 105], some (104, true)⟩,
 oQ 107 (.pick (.t 104) (.t 106) (.c (.bool false))),
 oQ 108 (.mov (.t 107)),
 ⟨some 109, .op (.faddr 4 (.t 14)), some (108, true)⟩,
 ⟨some 110, .op (.load false 1 (.t 109)), some (108, true)⟩,
 ⟨some 111, .op (.bin 0 .eql (.t 110) (.c (.int .i32 0))), some (108, true)⟩,
 oQ 112 (.pick (.t 108) (.t 111) (.c (.bool false))),
 oQ 113 (.mov (.t 112)),
 ⟨some 114, .op (.faddr 5 (.t 14)), some (113, true)⟩,
 ⟨some 115, .op (.load false 1 (.t 114)), some (113, true)⟩,
 ⟨some 116, .op (.iaddr 2 (.t 115) (.c (.int .i64 0))), some (113, true)⟩,
 ⟨some 117, .op (.load true 2 (.t 116)), some (113, true)⟩,
 ⟨some 118, .call false (.c (.fn 92 [] [])) [.t 117], some (113, true)⟩,
 ⟨some 119, .op (.un .not (.t 118)), some (113, true)⟩,
 oQ 120 (.pick (.t 113) (.t 119) (.c (.bool false))),
 oQ 94 (.mov (.t 120))])
 (.cond (.t 94)
 (.seq
 (.region false [
 oQ 122 (.faddr 5 (.t 14)),
 oQ 123 (.load false 1 (.t 122)),
 oQ 124 (.iaddr 2 (.t 123) (.c (.int .i64 0))),
 oQ 125 (.load true 2 (.t 124)),
 oQ 126 (.mov (.t 1)),
 oQ 127 (.bin 0 .add (.t 126) (.c (.int .i64 1))),
 oQ 128 (.mov (.t 2)),
 oQ 129 (.mov (.t 12)),
 oQ 130 (.bin 0 .sub (.t 128) (.t 129)),
 ⟨some 131, .call false (.c (.fn 50 [] [])) [.t 125, .t 127, .t 130], none⟩,
 oQ 121 (.mov (.t 131)),
 oQ 132 (.extract (.t 121) 0),
 oQ 133 (.extract (.t 121) 1),
 oQ 134 (.extract (.t 121) 2),
 oQ 15 (.mov (.t 132)),
 oQ 16 (.mov (.t 133)),
 oQ 17 (.mov (.t 134))])
 (.seq
 (.seq
 (.region false [
 oQ 135 (.mov (.t 15)),
 oQ 136 (.un .not (.t 135))])
 (.cond (.t 136)
 (.seq
 (.region false [
 oQ 6 (.mov (.c (.bool false))),
 oQ 7 (.mov (.c (.int .i64 0))),
 oQ 8 (.mov (.c (.int .i64 0)))])
 .ret)
 .skip))
 (.seq
 (.seq
 (.region false [
 oQ 137 (.mov (.t 16)),
 oQ 138 (.mov (.t 11)),
 oQ 139 (.bin 0 .gtr (.t 137) (.t 138))])
 (.cond (.t 139)
 (.region false [
 oQ 140 (.mov (.t 16)),
 oQ 11 (.mov (.t 140))])
 .skip))
 (.region false [
 oQ 141 (.mov (.t 12)),
 oQ 142 (.mov (.t 17)),
 oQ 143 (.bin 0 .add (.t 141) (.t 142)),
 oQ 12 (.mov (.t 143))]))))
 (.seq
 (.region false [
 oQ 6 (.mov (.c (.bool false))),
 oQ 7 (.mov (.c (.int .i64 0))),
 oQ 8 (.mov (.c (.int .i64 0)))])
 .ret))))))))))
 (.region false [
 oQ 48 (.mov (.t 13)),
 oQ 49 (.bin 0 .add (.t 48) (.c (.int .i64 1))),
 oQ 13 (.mov (.t 49))]))))))
 (.seq
 (.seq
 (.region false [
 oQ 144 (.load true 2 (.t 3)),
 ⟨some 145, .call false (.c (.fn 92 [] [])) [.t 144], none⟩,
 oQ 146 (.un .not (.t 145))])
 (.cond (.t 146)
 (.region false [
 oQ 147 (.mov (.t 11)),
 oQ 148 (.bin 0 .add (.t 147) (.c (.int .i64 1))),
 oQ 11 (.mov (.t 148))])
 .skip))
 (.seq
 (.region false [
 oQ 149 (.mov (.t 12)),
 oQ 150 (.mov (.t 2)),
 oQ 151 (.bin 0 .leq (.t 149) (.t 150)),
 oQ 152 (.mov (.t 11)),
 oQ 153 (.mov (.t 12)),
 oQ 6 (.mov (.t 151)),
 oQ 7 (.mov (.t 152)),
 oQ 8 (.mov (.t 153))])
 .ret))))))))))
def c450 : CF := ⟨154, 3, [.mov (.t 6), .mov (.t 7), .mov (.t 8)], b450⟩
def b426 : C :=
 (.seq
 (.region false [
 oQ 1 (.box (.t 0)),
 oQ 2 (.mov (.c (.bool false)))])
 (.seq
 (.region false [
 oQ 7 (.load true 2 (.t 1)),
 ⟨some 8, .call false (.c (.fn 50 [] [])) [.t 7, .c (.int .i64 0), .c (.int .i64 16384)], none⟩,
 oQ 6 (.mov (.t 8)),
 oQ 9 (.extract (.t 6) 0),
 oQ 10 (.extract (.t 6) 1),
 oQ 11 (.extract (.t 6) 2),
 oQ 3 (.mov (.t 9)),
 oQ 4 (.mov (.t 10)),
 oQ 5 (.mov (.t 11))])
 (.seq
 (.region false [
 oQ 12 (.mov (.t 3)),
 oQ 13 (.mov (.t 12)),
 ⟨some 14, .op (.mov (.t 4)), some (13, true)⟩,
 ⟨some 15, .op (.bin 0 .leq (.t 14) (.c (.int .i64 16))), some (13, true)⟩,
 oQ 16 (.pick (.t 13) (.t 15) (.c (.bool false))),
 oQ 2 (.mov (.t 16))])
 .ret)))
def c426 : CF := ⟨17, 1, [.mov (.t 2)], b426⟩
def b427 : C :=
 (.seq
 (.region false [
 oQ 1 (.box (.t 0)),
 oQ 2 (.box (.c (.agg [.sl true [] 0, .sl true [] 0])))])
 (.seq
 (.region false [
 oQ 3 (.box (.c (.agg [.sl true [] 0, .sl true [] 0])))])
 (.seq
 (.region false [
 oQ 5 (.faddr 0 (.t 3)),
 oQ 6 (.load false 1 (.t 5)),
 oQ 7 (.faddr 0 (.t 1)),
 oQ 8 (.load false 1 (.t 7)),
 oQ 9 (.append 1 8 (.t 6) (.t 8)),
 oQ 10 (.faddr 0 (.t 3)),
 ⟨none, .op (.store 1 (.t 10) (.t 9)), none⟩])
 (.seq
 (.seq
 (.region false [
 oQ 4 (.mov (.c (.int .i64 0)))])
 (.block 0
 (.loop
 (.seq
 (.seq
 (.region false [
 oQ 11 (.mov (.t 4)),
 oQ 12 (.faddr 1 (.t 1)),
 oQ 13 (.load false 1 (.t 12)),
 oQ 14 (.len false (.t 13)),
 oQ 15 (.bin 0 .lss (.t 11) (.t 14))])
 (.cond (.t 15)
 .skip
 (.exit 0)))
 (.seq
 (.block 1
 (.region true [
 oQ 18 (.faddr 1 (.t 3)),
 oQ 19 (.load false 1 (.t 18)),
 oQ 20 (.faddr 1 (.t 1)),
 oQ 21 (.load false 1 (.t 20)),
 oQ 22 (.mov (.t 4)),
 oQ 23 (.iaddr 6 (.t 21) (.t 22)),
 oQ 24 (.load true 6 (.t 23)),
 ⟨some 25, .call true (.c (.fn 51 [] [])) [.t 24], none⟩,
 oQ 26 (.mksl [.int .u8 0, .bool false, .sl true [] 0, .sl true [] 0, .int .i32 0, .sl true [] 0] 1 [(0, (6, .t 25))]),
 oQ 27 (.append 6 96 (.t 19) (.t 26)),
 oQ 28 (.faddr 1 (.t 3)),
 ⟨none, .op (.store 1 (.t 28) (.t 27)), none⟩]))
 (.region false [
 oQ 16 (.mov (.t 4)),
 oQ 17 (.bin 0 .add (.t 16) (.c (.int .i64 1))),
 oQ 4 (.mov (.t 17))]))))))
 (.seq
 (.region false [
 oQ 29 (.load true 2 (.t 3)),
 ⟨none, .op (.store 2 (.t 2) (.t 29)), none⟩])
 .ret)))))
def c427 : CF := ⟨30, 1, [.load true 2 (.t 2)], b427⟩
def b413 : C :=
 (.seq
 (.region false [
 oQ 1 (.box (.t 0)),
 oQ 2 (.mov (.c (.sl true [] 0)))])
 (.seq
 (.region false [
 oQ 6 (.faddr 0 (.t 1)),
 oQ 7 (.load false 1 (.t 6)),
 ⟨some 8, .call false (.c (.fn 25 [] [])) [.t 7], none⟩,
 oQ 5 (.mov (.t 8)),
 oQ 9 (.extract (.t 5) 0),
 oQ 10 (.extract (.t 5) 1),
 oQ 3 (.mov (.t 9)),
 oQ 4 (.mov (.t 10))])
 (.seq
 (.seq
 (.region false [
 oQ 11 (.mov (.t 4)),
 oQ 12 (.bin 0 .neq (.t 11) (.c (.int .i64 0))),
 oQ 13 (.mov (.t 12)),
 ⟨some 14, .op (.mov (.t 3)), some (13, false)⟩,
 ⟨some 15, .op (.bin 0 .eql (.t 14) (.c (.int .i64 0))), some (13, false)⟩,
 oQ 16 (.pick (.t 13) (.c (.bool true)) (.t 15)),
 oQ 17 (.mov (.t 16)),
 ⟨some 18, .op (.load true 2 (.t 1)), some (17, false)⟩,
 ⟨some 19, .call false (.c (.fn 26 [] [])) [.t 18], some (17, false)⟩,
 ⟨some 20, .op (.un .not (.t 19)), some (17, false)⟩,
 oQ 21 (.pick (.t 17) (.c (.bool true)) (.t 20))])
 (.cond (.t 21)
 (.seq
 (.region false [
 oQ 2 (.mov (.c (.sl true [] 0)))])
 .ret)
 .skip))
 (.seq
 (.region false [
 oQ 22 (.load true 2 (.t 1)),
 ⟨some 23, .call false (.c (.fn 27 [] [])) [.t 22], none⟩,
 oQ 24 (.field false 1 1 (.t 23)),
 oQ 2 (.mov (.t 24))])
 .ret))))
def c413 : CF := ⟨25, 1, [.mov (.t 2)], b413⟩
def b404 : C :=
 (.seq
 (.region false [
 oQ 2 (.mov (.c (.bool false)))])
 (.seq
 (.region false [
 oQ 13 (.mov (.t 0)),
 ⟨some 14, .call false (.c (.fn 11 [] [])) [.t 13], none⟩,
 oQ 12 (.mov (.t 14)),
 oQ 15 (.extract (.t 12) 0),
 oQ 16 (.extract (.t 12) 1),
 oQ 17 (.extract (.t 12) 2),
 oQ 3 (.mov (.t 15)),
 oQ 4 (.mov (.t 16)),
 oQ 5 (.mov (.t 17))])
 (.seq
 (.region false [
 oQ 18 (.mov (.t 0)),
 ⟨some 19, .call false (.c (.fn 12 [] [])) [.t 18], none⟩,
 oQ 6 (.mov (.t 19))])
 (.seq
 (.region false [
 oQ 21 (.mov (.t 6)),
 ⟨some 22, .call false (.c (.fn 7 [] [])) [.t 21], none⟩,
 oQ 20 (.mov (.t 22)),
 oQ 23 (.extract (.t 20) 0),
 oQ 24 (.extract (.t 20) 1),
 oQ 25 (.extract (.t 20) 2),
 oQ 7 (.mov (.t 23)),
 oQ 8 (.mov (.t 24)),
 oQ 9 (.mov (.t 25))])
 (.seq
 (.seq
 (.region false [
 oQ 26 (.mov (.t 4)),
 oQ 27 (.bin 0 .neq (.t 26) (.c (.int .i64 0)))])
 (.cond (.t 27)
 (.seq
 (.region false [
 ⟨some 28, .call false (.c (.fn 9 [] [])) [], none⟩,
 oQ 29 (.mov (.t 28)),
 ⟨some 30, .op (.mov (.t 8)), some (29, true)⟩,
 ⟨some 31, .op (.bin 0 .neq (.t 30) (.c (.int .i64 0))), some (29, true)⟩,
 oQ 32 (.pick (.t 29) (.t 31) (.c (.bool false))),
 oQ 2 (.mov (.t 32))])
 .ret)
 .skip))
 (.seq
 (.seq
 (.region false [
 oQ 33 (.mov (.t 6)),
 oQ 34 (.len true (.t 33)),
 oQ 35 (.bin 0 .gtr (.t 34) (.c (.int .i64 1024)))])
 (.cond (.t 35)
 (.seq
 (.region false [
 ⟨some 36, .call false (.c (.fn 9 [] [])) [], none⟩,
 oQ 37 (.mov (.t 36)),
 ⟨some 38, .op (.mov (.t 8)), some (37, true)⟩,
 ⟨some 39, .op (.bin 0 .eql (.t 38) (.c (.int .i64 25))), some (37, true)⟩,
 oQ 40 (.pick (.t 37) (.t 39) (.c (.bool false))),
 oQ 2 (.mov (.t 40))])
 .ret)
 .skip))
 (.seq
 (.seq
 (.region false [
 oQ 41 (.mov (.t 8)),
 oQ 42 (.bin 0 .neq (.t 41) (.c (.int .i64 0))),
 oQ 43 (.mov (.t 42)),
 ⟨some 44, .op (.mov (.t 7)), some (43, false)⟩,
 ⟨some 45, .op (.len false (.t 44)), some (43, false)⟩,
 ⟨some 46, .op (.bin 0 .neq (.t 45) (.c (.int .i64 2))), some (43, false)⟩,
 oQ 47 (.pick (.t 43) (.c (.bool true)) (.t 46)),
 oQ 48 (.mov (.t 47)),
 ⟨some 49, .op (.mov (.t 7)), some (48, false)⟩,
 ⟨some 50, .op (.iaddr 5 (.t 49) (.c (.int .i64 0))), some (48, false)⟩,
 ⟨some 51, .op (.faddr 0 (.t 50)), some (48, false)⟩,
 ⟨some 52, .op (.load false 1 (.t 51)), some (48, false)⟩,
 ⟨some 53, .op (.bin 0 .neq (.t 52) (.c (.int .u8 2))), some (48, false)⟩,
 oQ 54 (.pick (.t 48) (.c (.bool true)) (.t 53)),
 oQ 55 (.mov (.t 54)),
 ⟨some 56, .op (.mov (.t 7)), some (55, false)⟩,
 ⟨some 57, .op (.iaddr 5 (.t 56) (.c (.int .i64 0))), some (55, false)⟩,
 ⟨some 58, .op (.faddr 1 (.t 57)), some (55, false)⟩,
 ⟨some 59, .op (.load false 1 (.t 58)), some (55, false)⟩,
 ⟨some 60, .op (.mov (.t 6)), some (55, false)⟩,
 ⟨some 61, .op (.bin 0 .neq (.t 59) (.t 60)), some (55, false)⟩,
 oQ 62 (.pick (.t 55) (.c (.bool true)) (.t 61)),
 oQ 63 (.mov (.t 62)),
 ⟨some 64, .op (.mov (.t 7)), some (63, false)⟩,
 ⟨some 65, .op (.iaddr 5 (.t 64) (.c (.int .i64 0))), some (63, false)⟩,
 ⟨some 66, .op (.faddr 3 (.t 65)), some (63, false)⟩,
 ⟨some 67, .op (.load true 2 (.t 66)), some (63, false)⟩,
 ⟨some 68, .call false (.c (.fn 13 [] [])) [.t 67], some (63, false)⟩,
 ⟨some 69, .op (.len false (.t 68)), some (63, false)⟩,
 ⟨some 70, .op (.mov (.t 3)), some (63, false)⟩,
 ⟨some 71, .op (.len false (.t 70)), some (63, false)⟩,
 ⟨some 72, .op (.bin 0 .neq (.t 69) (.t 71)), some (63, false)⟩,
 oQ 73 (.pick (.t 63) (.c (.bool true)) (.t 72))])
 (.cond (.t 73)
 (.seq
 (.region false [
 oQ 2 (.mov (.c (.bool false)))])
 .ret)
 .skip))
 (.seq
 (.region false [
 oQ 74 (.mov (.t 7)),
 oQ 75 (.iaddr 5 (.t 74) (.c (.int .i64 0))),
 oQ 76 (.faddr 3 (.t 75)),
 oQ 77 (.load true 2 (.t 76)),
 ⟨some 78, .call false (.c (.fn 13 [] [])) [.t 77], none⟩,
 oQ 10 (.mov (.t 78))])
 (.seq
 (.seq
 (.region false [
 oQ 11 (.mov (.c (.int .i64 0)))])
 (.block 0
 (.loop
 (.seq
 (.seq
 (.region false [
 oQ 79 (.mov (.t 11)),
 oQ 80 (.mov (.t 10)),
 oQ 81 (.len false (.t 80)),
 oQ 82 (.bin 0 .lss (.t 79) (.t 81))])
 (.cond (.t 82)
 .skip
 (.exit 0)))
 (.seq
 (.block 1
 (.seq
 (.region true [
 oQ 85 (.mov (.t 10)),
 oQ 86 (.mov (.t 11)),
 oQ 87 (.iaddr 6 (.t 85) (.t 86)),
 oQ 88 (.faddr 4 (.t 87)),
 oQ 89 (.load false 1 (.t 88)),
 oQ 90 (.mov (.t 3)),
 oQ 91 (.mov (.t 11)),
 oQ 92 (.iaddr 1 (.t 90) (.t 91)),
 oQ 93 (.load false 1 (.t 92)),
 oQ 94 (.bin 0 .neq (.t 89) (.t 93))])
 (.cond (.t 94)
 (.seq
 (.region false [
 oQ 2 (.mov (.c (.bool false)))])
 .ret)
 .skip)))
 (.region false [
 oQ 83 (.mov (.t 11)),
 oQ 84 (.bin 0 .add (.t 83) (.c (.int .i64 1))),
 oQ 11 (.mov (.t 84))]))))))
 (.seq
 (.region false [
 ⟨some 95, .call false (.c (.fn 9 [] [])) [], none⟩,
 oQ 2 (.mov (.t 95))])
 .ret))))))))))
def c404 : CF := ⟨96, 1, [.mov (.t 2)], b404⟩
theorem s450 : stripF Go.Proofs.Tryz.prog 50 = some c450 := by kernel_rfl
theorem s426 : stripF Go.Proofs.Tryz.prog 26 = some c426 := by kernel_rfl
theorem s427 : stripF Go.Proofs.Tryz.prog 27 = some c427 := by kernel_rfl
theorem s413 : stripF Go.Proofs.Tryz.prog 13 = some c413 := by kernel_rfl
theorem s404 : stripF Go.Proofs.Tryz.prog 4 = some c404 := by kernel_rfl

/-- The shape of characters. -/
def shA (rs : List Nat) : List V × Nat := if rs.length = 1 then ([], 0) else ([.int .i64 (rs.length : Nat)], 1)
def arrC (rs : List Nat) : V := .agg [.sl false (shA rs).1 (shA rs).2, .sl false (rs.map itemC).flatten rs.length]
theorem textA_arr {rs : List Nat} (h : rs ≠ []) : V.agg [(textA rs).1, (textA rs).2] = arrC rs := by
  rw [textA, arrC, shA]
  by_cases h1 : rs.length = 1
  · obtain ⟨c, rfl⟩ := List.length_eq_one_iff.1 h1
    rfl
  · rw [if_neg h1, if_neg h1, if_neg h, textItems, if_neg h]
theorem itemsC_len (l : List Nat) : (l.map itemC).flatten.length = l.length * 6 := by
  rw [flat6 _ (fun t ht => by obtain ⟨c, _, rfl⟩ := List.mem_map.1 ht; rfl), List.length_map]
theorem itemsC_at {A Z : List Nat} {c : Nat} : (((A ++ c :: Z).map itemC).flatten.drop (A.length * 6)).take 6 = itemC c := by
  rw [List.map_append, List.map_cons]
  have := flat6_at (A := A.map itemC) (Z := Z.map itemC) (t := itemC c) (fun x hx => by obtain ⟨c, _, rfl⟩ := List.mem_map.1 hx; rfl) rfl
  rwa [List.length_map] at this
theorem itemsC_ro (l : List Nat) : roL (l.map itemC).flatten = true := roL_of fun v hv => by
  obtain ⟨t, ht, hv⟩ := List.mem_flatten.1 hv
  obtain ⟨c, _, rfl⟩ := List.mem_map.1 ht
  simp only [itemC,List.mem_cons,List.not_mem_nil,or_false] at hv
  rcases hv with rfl | rfl | rfl | rfl | rfl | rfl <;> rfl
theorem shA_ro (rs : List Nat) : roL (shA rs).1 = true := by rw [shA]; split <;> rfl
theorem size_arr (rs : List Nat) (h : rs ≠ []) (hl : rs.length ≤ 1024) : Good Go.Proofs.Tryz.prog 25 [.sl false (shA rs).1 (shA rs).2] (.tup [.int .i64 (rs.length : Nat), .int .i64 0]) := by
  rw [shA]
  have hp := List.length_pos_iff.2 h
  by_cases h1 : rs.length = 1
  · rw [if_pos h1, h1]; exact good425a false
  · rw [if_neg h1]; exact good425b false rs.length (by omega) (by omega)
theorem simple_arr (rs : List Nat) (h : rs ≠ []) : Good Go.Proofs.Tryz.prog 92 [arrC rs] (.bool (decide (rs.length = 1))) := by
  rw [arrC, shA]
  by_cases h1 : rs.length = 1
  · obtain ⟨c, rfl⟩ := List.length_eq_one_iff.1 h1
    exact good492a false false c
  · rw [if_neg h1, decide_eq_false h1]; exact good492b false false rs.length rs.length _

set_option maxHeartbeats 2000000 in
theorem good450 (rs : List Nat) (h : rs ≠ []) (hl : rs.length ≤ 1024) (hok : ∀ c ∈ rs, charOK c) : Good Go.Proofs.Tryz.prog 50 [arrC rs, .int .i64 0, .int .i64 16384] (.tup [.bool true, .int .i64 (if rs.length = 1 then 0 else 1), .int .i64 (rs.length : Nat)]) := by
  refine good_go mix s450 (Nat.le_of_ble_eq_true rfl) fun e he => ?_
  have e0 : e 0 = arrC rs := he 0
  have e1 : e 1 = .int .i64 0 := he 1
  have e2 : e 2 = .int .i64 16384 := he 2
  clear he
  have hsz := size_arr rs h hl
  have hsi := simple_arr rs h
  have hsr := shA_ro rs
  have hir := itemsC_ro rs
  rw [arrC] at e0 hsi
  simp only [c450,b450, oQ]
  have hp := List.length_pos_iff.2 h
  obtain ⟨F, hF⟩ : ∃ F, F = (rs.map itemC).flatten := ⟨_, rfl⟩
  have hFl : F.length = rs.length * 6 := by rw [hF]; exact itemsC_len rs
  have hFat : ∀ (A Z : List Nat) (c : Nat), rs = A ++ c :: Z → (F.drop (A.length * 6)).take 6 = itemC c := fun A Z c hs => by rw [hF, hs]; exact itemsC_at
  rw [← hF] at e0 hsi hir
  generalize hS : (shA rs).1 = S at *
  generalize hT : (shA rs).2 = T at *
  simp -implicitDefEqProofs (disch := omega) only [↓ZD,ZP,cnd_t,cnd_f,↓reduceIte,Env.put,stepO,lenV,binV,binInt,unV,loadV,sliceV,boundOf,convV,slstrV,if_pos,if_neg,Int.reduceToNat,Nat.reducePow,V.cells,V.isCell,V.boxable,Nat.reduceEqDiff,reduceCtorEq,reduceIte,ite_self,enterEnv,e0,e1,e2,fillL,evParts,splice,List.take_zero,List.take_succ_cons,List.drop_succ_cons,List.drop_zero,List.drop_nil,loadV]
  refine calP_ro (by simp [roL, V.ro, hsr]) hsz rfl ?_
  simp -implicitDefEqProofs (disch := omega) only [↓ZD,ZP,cnd_t,cnd_f,↓reduceIte,Env.put,stepO,lenV,binV,binInt,unV,loadV,sliceV,boundOf,convV,slstrV,if_pos,if_neg,Int.reduceToNat,Nat.reducePow,V.cells,V.isCell,V.boxable,Nat.reduceEqDiff,reduceCtorEq,reduceIte,ite_self,enterEnv,e0,e1,e2,fillL,evParts,splice,List.take_zero,List.take_succ_cons,List.drop_succ_cons,List.drop_zero,List.drop_nil,loadV]
  refine go_loop (fun m e H => ∃ A Z, rs = A ++ Z ∧ m = Z.length ∧ H[0]? = some (.cells 0 0 true [.sl false S T, .sl false F rs.length]) ∧ 0 < H.length ∧ e 2 = .int .i64 16384 ∧ e 3 = .cell 0 0 0 ∧ e 11 = .int .i64 0 ∧ e 12 = .int .i64 (rs.length : Nat) ∧ e 13 = .int .i64 (A.length : Nat)) rs.length
    ⟨[], rs, rfl, rfl, rfl, by simp, ?_, ?_, ?_, ?_, ?_⟩ ?_
  · simp [Env.set, e2]
  · simp [Env.set]
  · simp [Env.set]
  · simp [Env.set]
  · simp [Env.set]
  clear e0 e1 e2
  rintro m e H ⟨A, Z, hAZ, rfl, h0, hH, e2, e3, e11, e12, e13⟩
  have hlen : rs.length = A.length + Z.length := by rw [hAZ]; simp
  cases Z with
  | nil =>
    simp only [List.length_nil,Nat.add_zero] at hlen
    by_cases h1 : rs.length = 1
    · rw [decide_eq_true h1] at hsi
      rw [if_pos h1]
      simp -implicitDefEqProofs (disch := (first | omega | (simp only [List.length_append,List.length_set,List.length_cons,List.length_nil]; try omega; done))) only [↓ZD,ZP,ZL,cnd_t,cnd_f,↓reduceIte,Env.put,stepO,lenV,binV,binInt,unV,loadV,sliceV,boundOf,convV,slstrV,if_pos,if_neg,Int.reduceToNat,Nat.reducePow,V.cells,V.isCell,V.boxable,Nat.reduceEqDiff,reduceCtorEq,reduceIte,ite_self,enterEnv,e2,e3,e11,e12,e13,h0,fillL,evParts,splice,List.take_zero,List.take_succ_cons,List.drop_succ_cons,List.drop_zero,List.drop_nil,loadV]
      refine calP_ro (by simp [roL, V.ro, hsr, hir]) hsi rfl ?_
      simp -implicitDefEqProofs (disch := (first | omega | (simp only [List.length_append,List.length_set,List.length_cons,List.length_nil]; try omega; done))) only [↓ZD,ZP,ZL,cnd_t,cnd_f,↓reduceIte,Env.put,stepO,lenV,binV,binInt,unV,loadV,sliceV,boundOf,convV,slstrV,if_pos,if_neg,Int.reduceToNat,Nat.reducePow,V.cells,V.isCell,V.boxable,Nat.reduceEqDiff,reduceCtorEq,reduceIte,ite_self,enterEnv,e2,e3,e11,e12,e13,h0,fillL,evParts,splice,List.take_zero,List.take_succ_cons,List.drop_succ_cons,List.drop_zero,List.drop_nil,loadV]
      exact gives_eq rfl rfl
    · rw [decide_eq_false h1] at hsi
      rw [if_neg h1]
      simp -implicitDefEqProofs (disch := (first | omega | (simp only [List.length_append,List.length_set,List.length_cons,List.length_nil]; try omega; done))) only [↓ZD,ZP,ZL,cnd_t,cnd_f,↓reduceIte,Env.put,stepO,lenV,binV,binInt,unV,loadV,sliceV,boundOf,convV,slstrV,if_pos,if_neg,Int.reduceToNat,Nat.reducePow,V.cells,V.isCell,V.boxable,Nat.reduceEqDiff,reduceCtorEq,reduceIte,ite_self,enterEnv,e2,e3,e11,e12,e13,h0,fillL,evParts,splice,List.take_zero,List.take_succ_cons,List.drop_succ_cons,List.drop_zero,List.drop_nil,loadV]
      refine calP_ro (by simp [roL, V.ro, hsr, hir]) hsi rfl ?_
      simp -implicitDefEqProofs (disch := (first | omega | (simp only [List.length_append,List.length_set,List.length_cons,List.length_nil]; try omega; done))) only [↓ZD,ZP,ZL,cnd_t,cnd_f,↓reduceIte,Env.put,stepO,lenV,binV,binInt,unV,loadV,sliceV,boundOf,convV,slstrV,if_pos,if_neg,Int.reduceToNat,Nat.reducePow,V.cells,V.isCell,V.boxable,Nat.reduceEqDiff,reduceCtorEq,reduceIte,ite_self,enterEnv,e2,e3,e11,e12,e13,h0,fillL,evParts,splice,List.take_zero,List.take_succ_cons,List.drop_succ_cons,List.drop_zero,List.drop_nil,loadV]
      exact gives_eq rfl rfl
  | cons c Z =>
    simp only [List.length_cons] at hlen
    have hat := hFat A Z c hAZ
    have hc := hok c (by rw [hAZ]; simp)
    rw [itemC] at hat
    have hn := good491 c
    rw [itemC] at hn
    simp -implicitDefEqProofs (disch := (first | omega | (simp only [List.length_append,List.length_set,List.length_cons,List.length_nil]; try omega; done))) only [↓ZD,ZP,ZL,cnd_t,cnd_f,↓reduceIte,Env.put,stepO,lenV,binV,binInt,unV,loadV,sliceV,boundOf,convV,slstrV,if_pos,if_neg,Int.reduceToNat,Nat.reducePow,V.cells,V.isCell,V.boxable,Nat.reduceEqDiff,reduceCtorEq,reduceIte,ite_self,enterEnv,e2,e3,e11,e12,e13,h0,hat,hFl,fillL,evParts,splice,List.take_zero,List.take_succ_cons,List.drop_succ_cons,List.drop_zero,List.drop_nil,loadV]
    refine calP_ro rfl (good490 c hc) rfl ?_
    simp -implicitDefEqProofs (disch := (first | omega | (simp only [List.length_append,List.length_set,List.length_cons,List.length_nil]; try omega; done))) only [↓ZD,ZP,ZL,cnd_t,cnd_f,↓reduceIte,Env.put,stepO,lenV,binV,binInt,unV,loadV,sliceV,boundOf,convV,slstrV,if_pos,if_neg,Int.reduceToNat,Nat.reducePow,V.cells,V.isCell,V.boxable,Nat.reduceEqDiff,reduceCtorEq,reduceIte,ite_self,enterEnv,e2,e3,e11,e12,e13,h0,hat,hFl,fillL,evParts,splice,List.take_zero,List.take_succ_cons,List.drop_succ_cons,List.drop_zero,List.drop_nil,loadV]
    refine calP_ro rfl hn rfl ?_
    simp -implicitDefEqProofs (disch := (first | omega | (simp only [List.length_append,List.length_set,List.length_cons,List.length_nil]; try omega; done))) only [↓ZD,ZP,ZL,cnd_t,cnd_f,↓reduceIte,Env.put,stepO,lenV,binV,binInt,unV,loadV,sliceV,boundOf,convV,slstrV,if_pos,if_neg,Int.reduceToNat,Nat.reducePow,V.cells,V.isCell,V.boxable,Nat.reduceEqDiff,reduceCtorEq,reduceIte,ite_self,enterEnv,e2,e3,e11,e12,e13,h0,hat,hFl,fillL,evParts,splice,List.take_zero,List.take_succ_cons,List.drop_succ_cons,List.drop_zero,List.drop_nil,loadV]
    exact ⟨Z.length, by omega, A ++ [c], Z, by rw [hAZ]; simp, rfl, by omega, by simp⟩

theorem good426 (rs : List Nat) (h : rs ≠ []) (hl : rs.length ≤ 1024) (hok : ∀ c ∈ rs, charOK c) : Good Go.Proofs.Tryz.prog 26 [arrC rs] (.bool true) := by
  refine good_go mix s426 (Nat.le_of_ble_eq_true rfl) fun e he => ?_
  have e0 : e 0 = arrC rs := he 0
  clear he
  have hg := good450 rs h hl hok
  have hsr := shA_ro rs
  have hir := itemsC_ro rs
  rw [arrC] at e0 hg
  simp only [c426,b426, oQ]
  simp -implicitDefEqProofs (disch := omega) only [↓ZD,ZP,cnd_t,cnd_f,↓reduceIte,Env.put,stepO,lenV,binV,binInt,unV,loadV,sliceV,boundOf,convV,slstrV,if_pos,if_neg,Int.reduceToNat,Nat.reducePow,V.cells,V.isCell,V.boxable,Nat.reduceEqDiff,reduceCtorEq,reduceIte,ite_self,enterEnv,e0,fillL,evParts,splice,List.take_zero,List.take_succ_cons,List.drop_succ_cons,List.drop_zero,List.drop_nil,loadV]
  refine calP_ro (by simp [roL, V.ro, hsr, hir]) hg rfl ?_
  by_cases h1 : rs.length = 1
  · rw [if_pos h1]
    simp -implicitDefEqProofs (disch := omega) only [↓ZD,ZP,cnd_t,cnd_f,↓reduceIte,Env.put,stepO,lenV,binV,binInt,unV,loadV,sliceV,boundOf,convV,slstrV,if_pos,if_neg,Int.reduceToNat,Nat.reducePow,V.cells,V.isCell,V.boxable,Nat.reduceEqDiff,reduceCtorEq,reduceIte,ite_self,enterEnv,e0]
    exact gives_eq rfl rfl
  · rw [if_neg h1]
    simp -implicitDefEqProofs (disch := omega) only [↓ZD,ZP,cnd_t,cnd_f,↓reduceIte,Env.put,stepO,lenV,binV,binInt,unV,loadV,sliceV,boundOf,convV,slstrV,if_pos,if_neg,Int.reduceToNat,Nat.reducePow,V.cells,V.isCell,V.boxable,Nat.reduceEqDiff,reduceCtorEq,reduceIte,ite_self,enterEnv,e0]
    exact gives_eq rfl rfl

/-- Copies that grow, in memory. -/
def QAt (n0 : Nat) (H : Heap) (v : V) (l : List Nat) : Prop := n0 ≤ H.length ∧ ((l = [] ∧ v = .sl true [] 0) ∨ ∃ b g, v = .view b g 0 l.length ∧ n0 ≤ b ∧ b < H.length ∧ H[b]? = some (.cells g 6 true (l.map itemQ).flatten))
theorem itemsQ_len (l : List Nat) : (l.map itemQ).flatten.length = l.length * 6 := by
  rw [flat6 _ (fun t ht => by obtain ⟨c, _, rfl⟩ := List.mem_map.1 ht; rfl), List.length_map]
theorem itemsQ_ro (l : List Nat) : roL (l.map itemQ).flatten = true := roL_of fun v hv => by
  obtain ⟨t, ht, hv⟩ := List.mem_flatten.1 hv
  obtain ⟨c, _, rfl⟩ := List.mem_map.1 ht
  simp only [itemQ,List.mem_cons,List.not_mem_nil,or_false] at hv
  rcases hv with rfl | rfl | rfl | rfl | rfl | rfl <;> rfl
theorem append_q {n0 : Nat} {H : Heap} {v : V} {l : List Nat} (h : QAt n0 H v l) (c : Nat) (hl : l.length ≤ 100000) :
    ∃ v' H', appendV 6 96 H v (.sl true (itemQ c) 1) = some (v', H') ∧ QAt n0 H' v' (l ++ [c]) ∧ (∀ k, k < n0 → H'[k]? = H[k]?) := by
  have hi : (itemQ c).length = 6 := rfl
  have hcell : (itemQ c).all V.isCell = true := rfl
  obtain ⟨hn, h⟩ := h
  rcases h with ⟨rfl, rfl⟩ | ⟨b, g, rfl, hb2, hb, hHb⟩
  · refine ⟨.view H.length 0 0 1, H ++ [.cells 0 6 true (itemQ c)], by simp [appendV, srcCells, readSl, hi], ⟨by simp; omega, .inr ⟨H.length, 0, rfl, hn, by simp, by simp⟩⟩, fun k hk => ?_⟩
    rw [List.getElem?_append_left (by omega)]
  · have hil := itemsQ_len l
    have q1 : l.length * 6 ≤ (l.map itemQ).flatten.length := by omega
    have q2 : (l.length + 1) * 96 ≤ 140737488355328 := by omega
    have q3 : l.length + 1 ≤ 9223372036854775807 := by omega
    have q4 : (l.map itemQ).flatten.take (l.length * 6) = (l.map itemQ).flatten := by rw [← hil, List.take_length]
    refine ⟨.view b (g + 1) 0 (l.length + 1), H.set b (.cells (g + 1) 6 true ((l.map itemQ).flatten ++ itemQ c)), ?_, ⟨by simpa using hn, .inr ⟨b, g + 1, by simp, hb2, by simpa using hb, by simp [hb]⟩⟩, fun k hk => ?_⟩
    · generalize (l.map itemQ).flatten = F at *
      simp [appendV, srcCells, readSl, hHb, hi, hcell, q1, q2, q3, q4]
    · rw [List.getElem?_set_ne (by omega)]
theorem qAt_set {n0 : Nat} {H : Heap} {v : V} {l : List Nat} (h : QAt n0 H v l) {k : Nat} (hk : k < n0) (x : HObj) : QAt n0 (H.set k x) v l := by
  obtain ⟨hn, h⟩ := h
  refine ⟨by simpa using hn, ?_⟩
  rcases h with h | ⟨b, g, h1, h2, h3, h4⟩
  · exact .inl h
  · exact .inr ⟨b, g, h1, h2, by simpa using h3, by rw [List.getElem?_set_ne (by omega)]; exact h4⟩

def copyA (rs : List Nat) : V := .agg [.sl false (shA rs).1 (shA rs).2, .sl false (rs.map itemQ).flatten rs.length]

set_option maxHeartbeats 2000000 in
theorem good427 (rs : List Nat) (h : rs ≠ []) (hl : rs.length ≤ 1024) : Good Go.Proofs.Tryz.prog 27 [arrC rs] (copyA rs) := by
  refine good_go mix s427 (Nat.le_of_ble_eq_true rfl) fun e he => ?_
  have e0 : e 0 = arrC rs := he 0
  clear he
  have hp := List.length_pos_iff.2 h
  rw [arrC] at e0
  rw [copyA]
  have hsr := shA_ro rs
  obtain ⟨F, hF⟩ : ∃ F, F = (rs.map itemC).flatten := ⟨_, rfl⟩
  have hFl : F.length = rs.length * 6 := by rw [hF]; exact itemsC_len rs
  have hFat : ∀ (A Z : List Nat) (c : Nat), rs = A ++ c :: Z → (F.drop (A.length * 6)).take 6 = itemC c := fun A Z c hs => by rw [hF, hs]; exact itemsC_at
  rw [← hF] at e0
  simp only [c427,b427, oQ]
  have happs : ∃ (sv : V) (n0 : Nat) (X : Heap), (∀ H : Heap, H.length = 3 → appendV 1 8 H (.sl true [] 0) (.sl false (shA rs).1 (shA rs).2) = some (sv, H ++ X)) ∧ n0 = 3 + X.length ∧ X.length ≤ 1 ∧ sv.isCell = true ∧ sv.cells = [sv] ∧ ((sv = .sl true [] 0 ∧ (shA rs).1 = [] ∧ (shA rs).2 = 0 ∧ X = []) ∨ (sv = .view 3 0 0 1 ∧ (shA rs).2 = 1 ∧ (shA rs).1.length = 1 ∧ X = [.cells 0 1 true (shA rs).1])) := by
    rw [shA]
    by_cases h1 : rs.length = 1
    · rw [if_pos h1]
      exact ⟨.sl true [] 0, 3, [], fun H _ => by simp [appendV, srcCells, readSl], rfl, by simp, rfl, rfl, .inl ⟨rfl, rfl, rfl, rfl⟩⟩
    · rw [if_neg h1]
      exact ⟨.view 3 0 0 1, 4, [.cells 0 1 true [.int .i64 (rs.length : Nat)]], fun H h3 => by simp [appendV, srcCells, readSl, h3], rfl, by simp, rfl, rfl, .inr ⟨rfl, rfl, rfl, rfl⟩⟩
  obtain ⟨sv, n0, X, happ, hn0, hX1, hcell, hcells, hsv⟩ := happs
  generalize hS : (shA rs).1 = S at *
  generalize hT : (shA rs).2 = T at *
  have ha := happ [.cells 0 0 true [.sl false S T, .sl false F rs.length], .cells 0 0 true [.sl true [] 0, .sl true [] 0], .cells 0 0 true [.sl true [] 0, .sl true [] 0]] rfl
  obtain ⟨w, hw⟩ : ∃ w, w = sv := ⟨_, rfl⟩
  have hwc : w.isCell = true := by rw [hw]; exact hcell
  have hX3 : 4 ≤ n0 → X.length = 1 := by omega
  rcases hsv with ⟨rfl, rfl, rfl, rfl⟩ | ⟨rfl, rfl, hS1, rfl⟩
  · simp -implicitDefEqProofs (disch := omega) only [↓ZD,ZP,cnd_t,cnd_f,↓reduceIte,Env.put,stepO,lenV,binV,binInt,unV,loadV,sliceV,boundOf,convV,slstrV,if_pos,if_neg,Int.reduceToNat,Nat.reducePow,V.cells,V.isCell,V.boxable,Nat.reduceEqDiff,reduceCtorEq,reduceIte,ite_self,enterEnv,e0,fillL,evParts,splice,List.take_zero,List.take_succ_cons,List.drop_succ_cons,List.drop_zero,List.drop_nil,loadV,ha]
    refine go_loop (fun m e H => ∃ A Z v, rs = A ++ Z ∧ m = Z.length ∧ H[0]? = some (.cells 0 0 true [.sl false [] 0, .sl false F rs.length]) ∧ H[1]? = some (.cells 0 0 true [.sl true [] 0, .sl true [] 0]) ∧ H[2]? = some (.cells 0 0 true [w, v]) ∧ QAt 3 H v A ∧ e 1 = .cell 0 0 0 ∧ e 2 = .cell 1 0 0 ∧ e 3 = .cell 2 0 0 ∧ e 4 = .int .i64 (A.length : Nat)) rs.length ⟨[], rs, .sl true [] 0, rfl, rfl, rfl, rfl, by simp [hw], ⟨by simp, .inl ⟨rfl, rfl⟩⟩, by simp [Env.set], by simp [Env.set], by simp [Env.set], by simp [Env.set]⟩ ?_
    clear e0 ha happ
    rintro m e H ⟨A, Z, v, hAZ, rfl, h0, h1, h2, hq, e1, e2, e3, e4⟩
    obtain ⟨hnl, hq'⟩ := id hq
    cases Z with
    | cons c Z =>
      have hat := hFat A Z c hAZ
      have hln : A.length < rs.length := by rw [hAZ]; simp
      have hl6 : A.length * 6 + 6 ≤ F.length := by omega
      obtain ⟨v', H', happ, hq2, hk⟩ := append_q hq c (by omega)
      have k0 := (hk 0 (by omega)).trans h0
      have k1 := (hk 1 (by omega)).trans h1
      have k2 := (hk 2 (by omega)).trans h2
      have hn2 := hq2.1
      rcases hq2 with ⟨_, ⟨hnil, _⟩ | ⟨b', g', rfl, hb2, hb', hHb'⟩⟩
      · simp at hnil
      have hq3 := qAt_set (k := 2) (n0 := 3) ⟨hn2, .inr ⟨b', g', rfl, hb2, hb', hHb'⟩⟩ (by omega) (.cells 0 0 true [w, .view b' g' 0 (A ++ [c]).length])
      rw [show (A ++ [c]).length = A.length + 1 by simp] at hq3
      have hg := good451 c
      simp only [itemQ] at happ hg
      rcases hq' with ⟨hl0, hv0⟩ | ⟨b, g, hv0, _, _, _⟩
      · subst hv0
        simp -implicitDefEqProofs (disch := (first | omega | (simp only [List.length_append,List.length_set,List.length_cons,List.length_nil]; try omega; done))) only [↓ZD,ZP,ZL,cnd_t,cnd_f,↓reduceIte,Env.put,stepO,lenV,binV,binInt,unV,loadV,sliceV,boundOf,convV,slstrV,if_pos,if_neg,Int.reduceToNat,Nat.reducePow,V.cells,V.isCell,V.boxable,Nat.reduceEqDiff,reduceCtorEq,reduceIte,ite_self,enterEnv,e1,e2,e3,e4,h0,h2,hat,hFl,hln,fillL,evParts,splice,List.take_zero,List.take_succ_cons,List.drop_succ_cons,List.drop_zero,List.drop_nil,loadV]
        refine calD_ro (by simp [roL, V.ro, itemC]) hg rfl ?_
        simp -implicitDefEqProofs (disch := (first | omega | (simp only [List.length_append,List.length_set,List.length_cons,List.length_nil]; try omega; done))) only [↓ZD,ZP,ZL,cnd_t,cnd_f,↓reduceIte,Env.put,stepO,lenV,binV,binInt,unV,loadV,sliceV,boundOf,convV,slstrV,if_pos,if_neg,Int.reduceToNat,Nat.reducePow,V.cells,V.isCell,V.boxable,Nat.reduceEqDiff,reduceCtorEq,reduceIte,ite_self,enterEnv,e1,e2,e3,e4,h0,h2,k2,fillL,evParts,splice,List.take_zero,List.take_succ_cons,List.drop_succ_cons,List.drop_zero,List.drop_nil,loadV,happ]
        exact ⟨Z.length, by omega, A ++ [c], Z, _, by rw [hAZ]; simp, rfl, k0, k1, rfl, hq3, by simp⟩
      · subst hv0
        simp -implicitDefEqProofs (disch := (first | omega | (simp only [List.length_append,List.length_set,List.length_cons,List.length_nil]; try omega; done))) only [↓ZD,ZP,ZL,cnd_t,cnd_f,↓reduceIte,Env.put,stepO,lenV,binV,binInt,unV,loadV,sliceV,boundOf,convV,slstrV,if_pos,if_neg,Int.reduceToNat,Nat.reducePow,V.cells,V.isCell,V.boxable,Nat.reduceEqDiff,reduceCtorEq,reduceIte,ite_self,enterEnv,e1,e2,e3,e4,h0,h2,hat,hFl,hln,fillL,evParts,splice,List.take_zero,List.take_succ_cons,List.drop_succ_cons,List.drop_zero,List.drop_nil,loadV]
        refine calD_ro (by simp [roL, V.ro, itemC]) hg rfl ?_
        simp -implicitDefEqProofs (disch := (first | omega | (simp only [List.length_append,List.length_set,List.length_cons,List.length_nil]; try omega; done))) only [↓ZD,ZP,ZL,cnd_t,cnd_f,↓reduceIte,Env.put,stepO,lenV,binV,binInt,unV,loadV,sliceV,boundOf,convV,slstrV,if_pos,if_neg,Int.reduceToNat,Nat.reducePow,V.cells,V.isCell,V.boxable,Nat.reduceEqDiff,reduceCtorEq,reduceIte,ite_self,enterEnv,e1,e2,e3,e4,h0,h2,k2,fillL,evParts,splice,List.take_zero,List.take_succ_cons,List.drop_succ_cons,List.drop_zero,List.drop_nil,loadV,happ]
        exact ⟨Z.length, by omega, A ++ [c], Z, _, by rw [hAZ]; simp, rfl, k0, k1, rfl, hq3, by simp⟩
    | nil =>
      have hA : rs = A := by rw [hAZ, List.append_nil]
      subst hA
      have hnl' : ¬ rs.length < rs.length := by omega
      rcases hq' with ⟨hl0, hv0⟩ | ⟨b, g, hv0, hb1, hb2, hb3⟩
      · exact absurd hl0 h
      subst hv0
      subst hw
      simp -implicitDefEqProofs (disch := (first | omega | (simp only [List.length_append,List.length_set,List.length_cons,List.length_nil]; try omega; done))) only [↓ZD,ZP,ZL,cnd_t,cnd_f,↓reduceIte,Env.put,stepO,lenV,binV,binInt,unV,loadV,sliceV,boundOf,convV,slstrV,if_pos,if_neg,Int.reduceToNat,Nat.reducePow,V.cells,V.isCell,V.boxable,Nat.reduceEqDiff,reduceCtorEq,reduceIte,ite_self,enterEnv,e1,e2,e3,e4,h0,h1,h2,hnl',fillL,evParts,splice,List.take_zero,List.take_succ_cons,List.drop_succ_cons,List.drop_zero,List.drop_nil,loadV]
      have hil := itemsQ_len rs
      have hro := itemsQ_ro rs
      generalize (rs.map itemQ).flatten = Q at *
      have hQ : Q.take (rs.length * 6) = Q := by rw [← hil, List.take_length]
      have g2 : (H.set 1 (.cells 0 0 true [.sl true [] 0, .view b g 0 rs.length]))[b]? = some (.cells g 6 true Q) := by
        rw [List.getElem?_set_ne (by omega)]; exact hb3
      refine gives_lend 1 (v' := .agg [.sl true [] 0, .sl false Q rs.length]) ?_ (by simp [V.ro, roL, hro]) ?_
      · simp only [lend1,borL,bor,g2,if_true,List.drop_zero,Nat.mul_one,hQ]
        try rfl
      · rfl
  · simp -implicitDefEqProofs (disch := omega) only [↓ZD,ZP,cnd_t,cnd_f,↓reduceIte,Env.put,stepO,lenV,binV,binInt,unV,loadV,sliceV,boundOf,convV,slstrV,if_pos,if_neg,Int.reduceToNat,Nat.reducePow,V.cells,V.isCell,V.boxable,Nat.reduceEqDiff,reduceCtorEq,reduceIte,ite_self,enterEnv,e0,fillL,evParts,splice,List.take_zero,List.take_succ_cons,List.drop_succ_cons,List.drop_zero,List.drop_nil,loadV,ha]
    refine go_loop (fun m e H => ∃ A Z v, rs = A ++ Z ∧ m = Z.length ∧ H[0]? = some (.cells 0 0 true [.sl false S 1, .sl false F rs.length]) ∧ H[1]? = some (.cells 0 0 true [.sl true [] 0, .sl true [] 0]) ∧ H[2]? = some (.cells 0 0 true [w, v]) ∧ H[3]? = some (.cells 0 1 true S) ∧ QAt 4 H v A ∧ e 1 = .cell 0 0 0 ∧ e 2 = .cell 1 0 0 ∧ e 3 = .cell 2 0 0 ∧ e 4 = .int .i64 (A.length : Nat)) rs.length ⟨[], rs, .sl true [] 0, rfl, rfl, rfl, rfl, by simp [hw], rfl, ⟨by simp, .inl ⟨rfl, rfl⟩⟩, by simp [Env.set], by simp [Env.set], by simp [Env.set], by simp [Env.set]⟩ ?_
    clear e0 ha happ
    rintro m e H ⟨A, Z, v, hAZ, rfl, h0, h1, h2, h3, hq, e1, e2, e3, e4⟩
    obtain ⟨hnl, hq'⟩ := id hq
    cases Z with
    | cons c Z =>
      have hat := hFat A Z c hAZ
      have hln : A.length < rs.length := by rw [hAZ]; simp
      have hl6 : A.length * 6 + 6 ≤ F.length := by omega
      obtain ⟨v', H', happ, hq2, hk⟩ := append_q hq c (by omega)
      have k0 := (hk 0 (by omega)).trans h0
      have k1 := (hk 1 (by omega)).trans h1
      have k3 := (hk 3 (by omega)).trans h3
      have k2 := (hk 2 (by omega)).trans h2
      have hn2 := hq2.1
      rcases hq2 with ⟨_, ⟨hnil, _⟩ | ⟨b', g', rfl, hb2, hb', hHb'⟩⟩
      · simp at hnil
      have hq3 := qAt_set (k := 2) (n0 := 4) ⟨hn2, .inr ⟨b', g', rfl, hb2, hb', hHb'⟩⟩ (by omega) (.cells 0 0 true [w, .view b' g' 0 (A ++ [c]).length])
      rw [show (A ++ [c]).length = A.length + 1 by simp] at hq3
      have hg := good451 c
      simp only [itemQ] at happ hg
      rcases hq' with ⟨hl0, hv0⟩ | ⟨b, g, hv0, _, _, _⟩
      · subst hv0
        simp -implicitDefEqProofs (disch := (first | omega | (simp only [List.length_append,List.length_set,List.length_cons,List.length_nil]; try omega; done))) only [↓ZD,ZP,ZL,cnd_t,cnd_f,↓reduceIte,Env.put,stepO,lenV,binV,binInt,unV,loadV,sliceV,boundOf,convV,slstrV,if_pos,if_neg,Int.reduceToNat,Nat.reducePow,V.cells,V.isCell,V.boxable,Nat.reduceEqDiff,reduceCtorEq,reduceIte,ite_self,enterEnv,e1,e2,e3,e4,h0,h2,hat,hFl,hln,fillL,evParts,splice,List.take_zero,List.take_succ_cons,List.drop_succ_cons,List.drop_zero,List.drop_nil,loadV]
        refine calD_ro (by simp [roL, V.ro, itemC]) hg rfl ?_
        simp -implicitDefEqProofs (disch := (first | omega | (simp only [List.length_append,List.length_set,List.length_cons,List.length_nil]; try omega; done))) only [↓ZD,ZP,ZL,cnd_t,cnd_f,↓reduceIte,Env.put,stepO,lenV,binV,binInt,unV,loadV,sliceV,boundOf,convV,slstrV,if_pos,if_neg,Int.reduceToNat,Nat.reducePow,V.cells,V.isCell,V.boxable,Nat.reduceEqDiff,reduceCtorEq,reduceIte,ite_self,enterEnv,e1,e2,e3,e4,h0,h2,k2,fillL,evParts,splice,List.take_zero,List.take_succ_cons,List.drop_succ_cons,List.drop_zero,List.drop_nil,loadV,happ]
        exact ⟨Z.length, by omega, A ++ [c], Z, _, by rw [hAZ]; simp, rfl, k0, k1, rfl, k3, hq3, by simp⟩
      · subst hv0
        simp -implicitDefEqProofs (disch := (first | omega | (simp only [List.length_append,List.length_set,List.length_cons,List.length_nil]; try omega; done))) only [↓ZD,ZP,ZL,cnd_t,cnd_f,↓reduceIte,Env.put,stepO,lenV,binV,binInt,unV,loadV,sliceV,boundOf,convV,slstrV,if_pos,if_neg,Int.reduceToNat,Nat.reducePow,V.cells,V.isCell,V.boxable,Nat.reduceEqDiff,reduceCtorEq,reduceIte,ite_self,enterEnv,e1,e2,e3,e4,h0,h2,hat,hFl,hln,fillL,evParts,splice,List.take_zero,List.take_succ_cons,List.drop_succ_cons,List.drop_zero,List.drop_nil,loadV]
        refine calD_ro (by simp [roL, V.ro, itemC]) hg rfl ?_
        simp -implicitDefEqProofs (disch := (first | omega | (simp only [List.length_append,List.length_set,List.length_cons,List.length_nil]; try omega; done))) only [↓ZD,ZP,ZL,cnd_t,cnd_f,↓reduceIte,Env.put,stepO,lenV,binV,binInt,unV,loadV,sliceV,boundOf,convV,slstrV,if_pos,if_neg,Int.reduceToNat,Nat.reducePow,V.cells,V.isCell,V.boxable,Nat.reduceEqDiff,reduceCtorEq,reduceIte,ite_self,enterEnv,e1,e2,e3,e4,h0,h2,k2,fillL,evParts,splice,List.take_zero,List.take_succ_cons,List.drop_succ_cons,List.drop_zero,List.drop_nil,loadV,happ]
        exact ⟨Z.length, by omega, A ++ [c], Z, _, by rw [hAZ]; simp, rfl, k0, k1, rfl, k3, hq3, by simp⟩
    | nil =>
      have hA : rs = A := by rw [hAZ, List.append_nil]
      subst hA
      have hnl' : ¬ rs.length < rs.length := by omega
      rcases hq' with ⟨hl0, hv0⟩ | ⟨b, g, hv0, hb1, hb2, hb3⟩
      · exact absurd hl0 h
      subst hv0
      subst hw
      simp -implicitDefEqProofs (disch := (first | omega | (simp only [List.length_append,List.length_set,List.length_cons,List.length_nil]; try omega; done))) only [↓ZD,ZP,ZL,cnd_t,cnd_f,↓reduceIte,Env.put,stepO,lenV,binV,binInt,unV,loadV,sliceV,boundOf,convV,slstrV,if_pos,if_neg,Int.reduceToNat,Nat.reducePow,V.cells,V.isCell,V.boxable,Nat.reduceEqDiff,reduceCtorEq,reduceIte,ite_self,enterEnv,e1,e2,e3,e4,h0,h1,h2,hnl',fillL,evParts,splice,List.take_zero,List.take_succ_cons,List.drop_succ_cons,List.drop_zero,List.drop_nil,loadV]
      have hil := itemsQ_len rs
      have hro := itemsQ_ro rs
      generalize (rs.map itemQ).flatten = Q at *
      have hQ : Q.take (rs.length * 6) = Q := by rw [← hil, List.take_length]
      have g2 : (H.set 1 (.cells 0 0 true [.view 3 0 0 1, .view b g 0 rs.length]))[b]? = some (.cells g 6 true Q) := by
        rw [List.getElem?_set_ne (by omega)]; exact hb3
      have g1 : (H.set 1 (.cells 0 0 true [.view 3 0 0 1, .view b g 0 rs.length]))[3]? = some (.cells 0 1 true S) := by
        rw [List.getElem?_set_ne (by omega)]; exact h3
      have hS2 : S.take 1 = S := by rw [← hS1, List.take_length]
      refine gives_lend 1 (v' := .agg [.sl false S 1, .sl false Q rs.length]) ?_ (by simp [V.ro, roL, hro, hsr]) rfl
      simp only [lend1,borL,bor,g1,g2,if_true,List.drop_zero,Nat.mul_one,hQ,hS2]
      try rfl
end Fe
open Go Go.Proofs
open Go.RowKit
namespace Fe

theorem good413a (rs : List Nat) (h : rs ≠ []) (hl : rs.length ≤ 1024) (hok : ∀ c ∈ rs, charOK c) : Good Go.Proofs.Tryz.prog 13 [arrC rs] (.sl false (rs.map itemQ).flatten rs.length) := by
  refine good_go mix s413 (Nat.le_of_ble_eq_true rfl) fun e he => ?_
  have e0 : e 0 = arrC rs := he 0
  clear he
  have hp := List.length_pos_iff.2 h
  have hsr := shA_ro rs
  have hir := itemsC_ro rs
  have hiq := itemsQ_ro rs
  have h25 := size_arr rs h hl
  have h26 := good426 rs h hl hok
  have h27 := good427 rs h hl
  rw [arrC] at e0 h26 h27
  rw [copyA] at h27
  simp only [c413,b413, oQ]
  simp -implicitDefEqProofs (disch := omega) only [↓ZD,ZP,cnd_t,cnd_f,↓reduceIte,Env.put,stepO,lenV,binV,binInt,unV,loadV,sliceV,boundOf,convV,slstrV,if_pos,if_neg,Int.reduceToNat,Nat.reducePow,V.cells,V.isCell,V.boxable,Nat.reduceEqDiff,reduceCtorEq,reduceIte,ite_self,enterEnv,e0,fillL,evParts,splice,List.take_zero,List.take_succ_cons,List.drop_succ_cons,List.drop_zero,List.drop_nil,loadV]
  refine calP_ro (by simp [roL, V.ro, hsr]) h25 rfl ?_
  have hne : (((rs.length : Nat) : Int) == 0) = false := by simp; omega
  simp -implicitDefEqProofs (disch := omega) only [↓ZD,ZP,cnd_t,cnd_f,↓reduceIte,Env.put,stepO,lenV,binV,binInt,unV,loadV,sliceV,boundOf,convV,slstrV,if_pos,if_neg,Int.reduceToNat,Nat.reducePow,V.cells,V.isCell,V.boxable,Nat.reduceEqDiff,reduceCtorEq,reduceIte,ite_self,enterEnv,fillL,evParts,splice,List.take_zero,List.take_succ_cons,List.drop_succ_cons,List.drop_zero,List.drop_nil,loadV,bne,hne]
  refine calP_ro (by simp [roL, V.ro, hsr, hir]) h26 rfl ?_
  simp -implicitDefEqProofs (disch := omega) only [↓ZD,ZP,cnd_t,cnd_f,↓reduceIte,Env.put,stepO,lenV,binV,binInt,unV,loadV,sliceV,boundOf,convV,slstrV,if_pos,if_neg,Int.reduceToNat,Nat.reducePow,V.cells,V.isCell,V.boxable,Nat.reduceEqDiff,reduceCtorEq,reduceIte,ite_self,enterEnv,fillL,evParts,splice,List.take_zero,List.take_succ_cons,List.drop_succ_cons,List.drop_zero,List.drop_nil,loadV,unV]
  refine calP_ro (by simp [roL, V.ro, hsr, hir]) h27 (by simp [roL, V.ro, hsr, hiq]) ?_
  simp -implicitDefEqProofs (disch := omega) only [↓ZD,ZP,cnd_t,cnd_f,↓reduceIte,Env.put,stepO,lenV,binV,binInt,unV,loadV,sliceV,boundOf,convV,slstrV,if_pos,if_neg,Int.reduceToNat,Nat.reducePow,V.cells,V.isCell,V.boxable,Nat.reduceEqDiff,reduceCtorEq,reduceIte,ite_self,enterEnv,fillL,evParts,splice,List.take_zero,List.take_succ_cons,List.drop_succ_cons,List.drop_zero,List.drop_nil,loadV]
  exact gives_ro (by simp [V.ro, hiq])

theorem good413b : Good Go.Proofs.Tryz.prog 13 [.agg [.sl false [.int .i64 ((0 : Nat) : Int)] 1, .sl false (textItems []) 1]] (.sl true [] 0) := by
  refine good_go mix s413 (Nat.le_of_ble_eq_true rfl) fun e he => ?_
  have e0 : e 0 = .agg [.sl false [.int .i64 ((0 : Nat) : Int)] 1, .sl false (textItems []) 1] := he 0
  clear he
  simp only [c413,b413, oQ]
  simp -implicitDefEqProofs (disch := omega) only [↓ZD,ZP,cnd_t,cnd_f,↓reduceIte,Env.put,stepO,lenV,binV,binInt,unV,loadV,sliceV,boundOf,convV,slstrV,if_pos,if_neg,Int.reduceToNat,Nat.reducePow,V.cells,V.isCell,V.boxable,Nat.reduceEqDiff,reduceCtorEq,reduceIte,ite_self,enterEnv,e0,fillL,evParts,splice,List.take_zero,List.take_succ_cons,List.drop_succ_cons,List.drop_zero,List.drop_nil,loadV]
  refine calP_ro rfl (good425c false) rfl ?_
  simp -implicitDefEqProofs (disch := omega) only [↓ZD,ZP,cnd_t,cnd_f,↓reduceIte,Env.put,stepO,lenV,binV,binInt,unV,loadV,sliceV,boundOf,convV,slstrV,if_pos,if_neg,Int.reduceToNat,Nat.reducePow,V.cells,V.isCell,V.boxable,Nat.reduceEqDiff,reduceCtorEq,reduceIte,ite_self,enterEnv,fillL,evParts,splice,List.take_zero,List.take_succ_cons,List.drop_succ_cons,List.drop_zero,List.drop_nil,loadV,bne,unV]
  exact gives_ro rfl

/-- What Items gives of a text's characters. -/
def itemsR (rs : List Nat) : V := if rs = [] then .sl true [] 0 else .sl false (rs.map itemQ).flatten rs.length
theorem itemsR_ro' (rs : List Nat) : (itemsR rs).ro = true := by
  rw [itemsR]; split
  · rfl
  · simp [V.ro, itemsQ_ro]
theorem textA_ro (rs : List Nat) : roL [(textA rs).1, (textA rs).2] = true := by
  by_cases h : rs = []
  · subst h; rfl
  · have h1 := textA_arr h
    have h2 : (arrC rs).ro = true := by simp [arrC, V.ro, roL, shA_ro, itemsC_ro]
    rw [← h1] at h2
    exact h2
theorem good413 (rs : List Nat) (hl : rs.length ≤ 1024) (hok : ∀ c ∈ rs, charOK c) : Good Go.Proofs.Tryz.prog 13 [.agg [(textA rs).1, (textA rs).2]] (itemsR rs) := by
  by_cases h : rs = []
  · subst h; exact good413b
  · rw [itemsR, if_neg h, textA_arr h]; exact good413a rs h hl hok
theorem itemsQ_at {A Z : List Nat} {c : Nat} : (((A ++ c :: Z).map itemQ).flatten.drop (A.length * 6)).take 6 = itemQ c := by
  rw [List.map_append, List.map_cons]
  have := flat6_at (A := A.map itemQ) (Z := Z.map itemQ) (t := itemQ c) (fun x hx => by obtain ⟨c, _, rfl⟩ := List.mem_map.1 hx; rfl) rfl
  rwa [List.length_map] at this
theorem itemsQ_4 {rs : List Nat} {k : Nat} (h : k < rs.length) : ((rs.map itemQ).flatten)[k * 6 + 4]? = some (.int .i32 (rs[k] : Nat)) := by
  have hs : rs = rs.take k ++ rs[k] :: rs.drop (k + 1) := by rw [List.getElem_cons_drop, List.take_append_drop]
  have hk : (rs.take k).length = k := by rw [List.length_take]; omega
  have h6 := itemsQ_at (A := rs.take k) (Z := rs.drop (k + 1)) (c := rs[k])
  rw [hk, ← hs] at h6
  have : (((rs.map itemQ).flatten.drop (k * 6)).take 6)[4]? = some (.int .i32 (rs[k] : Nat)) := by rw [h6]; rfl
  rwa [List.getElem?_take_of_lt (by omega), List.getElem?_drop] at this
theorem rl_at {rs : List Nat} {k : Nat} (h : k < rs.length) : (rl rs)[k]? = some (.int .i32 (rs[k] : Nat)) := by
  simp [rl, h]

theorem dbl_ge : ∀ s : List UInt8, s.length ≤ (dbl s).length
  | [] => Nat.zero_le _
  | c :: s => by
    have := dbl_ge s
    rw [dbl]
    split <;> simp only [List.length_cons] <;> omega
theorem rn_len_q (s : List UInt8) : (rn s).length ≤ (quoteB s).length := by
  have := rn_len s
  have := dbl_ge s
  simp [quoteB]; omega

set_option maxHeartbeats 1000000 in
theorem good404 (s : List UInt8) (hs : s.length ≤ 1100000) : Good Go.Proofs.Tryz.prog 4 [.str s] (.bool true) := by
  have h13 := good13 s hs
  have h12 := good412 s hs
  have h5 := good5 (quoteB s)
  refine good_go mix s404 (Nat.le_of_ble_eq_true rfl) fun e he => ?_
  have e0 : e 0 = .str s := he 0
  clear he
  simp only [c404,b404, oQ]
  cases hb : bad s with
  | some i =>
    have h5' : ∃ (er : Nat) (j : Nat), er ≠ 0 ∧ allR (quoteB s) = .tup [.sl false [] 0, .int .i64 (er : Nat), .int .i64 (j : Nat)] := by
      rw [allR]
      by_cases hlong : 1024 < (quoteB s).length
      · rw [if_pos hlong]; exact ⟨25, 0, by omega, rfl⟩
      · rw [if_neg hlong]
        cases hq : bad (quoteB s) with
        | some j => exact ⟨26, j, by omega, rfl⟩
        | none => rw [quote_bad s hq] at hb; cases hb
    obtain ⟨er, j, hne, hr⟩ := h5'
    rw [hr] at h5
    rw [runesR, hb] at h13
    simp -implicitDefEqProofs (disch := omega) only [↓ZD,ZP,cnd_t,cnd_f,↓reduceIte,Env.put,stepO,lenV,binV,binInt,unV,loadV,sliceV,boundOf,convV,slstrV,if_pos,if_neg,Int.reduceToNat,Nat.reducePow,V.cells,V.isCell,V.boxable,Nat.reduceEqDiff,reduceCtorEq,reduceIte,ite_self,enterEnv,e0]
    refine calP_ro rfl h13 rfl ?_
    simp -implicitDefEqProofs (disch := omega) only [↓ZD,ZP,cnd_t,cnd_f,↓reduceIte,Env.put,stepO,lenV,binV,binInt,unV,loadV,sliceV,boundOf,convV,slstrV,if_pos,if_neg,Int.reduceToNat,Nat.reducePow,V.cells,V.isCell,V.boxable,Nat.reduceEqDiff,reduceCtorEq,reduceIte,ite_self,enterEnv,e0]
    refine calP_ro rfl h12 rfl ?_
    simp -implicitDefEqProofs (disch := omega) only [↓ZD,ZP,cnd_t,cnd_f,↓reduceIte,Env.put,stepO,lenV,binV,binInt,unV,loadV,sliceV,boundOf,convV,slstrV,if_pos,if_neg,Int.reduceToNat,Nat.reducePow,V.cells,V.isCell,V.boxable,Nat.reduceEqDiff,reduceCtorEq,reduceIte,ite_self,enterEnv,e0]
    refine calP_ro rfl h5 rfl ?_
    have hne' : (((er : Nat) : Int) == 0) = false := by simp; omega
    simp -implicitDefEqProofs (disch := omega) only [↓ZD,ZP,cnd_t,cnd_f,↓reduceIte,Env.put,stepO,lenV,binV,binInt,unV,loadV,sliceV,boundOf,convV,slstrV,if_pos,if_neg,Int.reduceToNat,Nat.reducePow,V.cells,V.isCell,V.boxable,Nat.reduceEqDiff,reduceCtorEq,reduceIte,ite_self,enterEnv,e0,bne]
    refine calP_ro rfl good6 rfl ?_
    simp -implicitDefEqProofs (disch := omega) only [↓ZD,ZP,cnd_t,cnd_f,↓reduceIte,Env.put,stepO,lenV,binV,binInt,unV,loadV,sliceV,boundOf,convV,slstrV,if_pos,if_neg,Int.reduceToNat,Nat.reducePow,V.cells,V.isCell,V.boxable,Nat.reduceEqDiff,reduceCtorEq,reduceIte,ite_self,enterEnv,e0,bne,hne']
    exact gives_eq rfl rfl
  | none =>
    rw [runesR, hb] at h13
    have hrl := rl_ro (rn s)
    by_cases hlong : 1024 < (quoteB s).length
    · rw [allR, if_pos hlong] at h5
      simp -implicitDefEqProofs (disch := omega) only [↓ZD,ZP,cnd_t,cnd_f,↓reduceIte,Env.put,stepO,lenV,binV,binInt,unV,loadV,sliceV,boundOf,convV,slstrV,if_pos,if_neg,Int.reduceToNat,Nat.reducePow,V.cells,V.isCell,V.boxable,Nat.reduceEqDiff,reduceCtorEq,reduceIte,ite_self,enterEnv,e0]
      refine calP_ro rfl h13 (by simp [V.ro, roL, rsl, hrl]) ?_
      simp -implicitDefEqProofs (disch := omega) only [↓ZD,ZP,cnd_t,cnd_f,↓reduceIte,Env.put,stepO,lenV,binV,binInt,unV,loadV,sliceV,boundOf,convV,slstrV,if_pos,if_neg,Int.reduceToNat,Nat.reducePow,V.cells,V.isCell,V.boxable,Nat.reduceEqDiff,reduceCtorEq,reduceIte,ite_self,enterEnv,e0]
      refine calP_ro rfl h12 rfl ?_
      simp -implicitDefEqProofs (disch := omega) only [↓ZD,ZP,cnd_t,cnd_f,↓reduceIte,Env.put,stepO,lenV,binV,binInt,unV,loadV,sliceV,boundOf,convV,slstrV,if_pos,if_neg,Int.reduceToNat,Nat.reducePow,V.cells,V.isCell,V.boxable,Nat.reduceEqDiff,reduceCtorEq,reduceIte,ite_self,enterEnv,e0]
      refine calP_ro rfl h5 rfl ?_
      simp -implicitDefEqProofs (disch := omega) only [↓ZD,ZP,cnd_t,cnd_f,↓reduceIte,Env.put,stepO,lenV,binV,binInt,unV,loadV,sliceV,boundOf,convV,slstrV,if_pos,if_neg,Int.reduceToNat,Nat.reducePow,V.cells,V.isCell,V.boxable,Nat.reduceEqDiff,reduceCtorEq,reduceIte,ite_self,enterEnv,e0,bne,hlong]
      refine calP_ro rfl good6 rfl ?_
      simp -implicitDefEqProofs (disch := omega) only [↓ZD,ZP,cnd_t,cnd_f,↓reduceIte,Env.put,stepO,lenV,binV,binInt,unV,loadV,sliceV,boundOf,convV,slstrV,if_pos,if_neg,Int.reduceToNat,Nat.reducePow,V.cells,V.isCell,V.boxable,Nat.reduceEqDiff,reduceCtorEq,reduceIte,ite_self,enterEnv,e0,bne]
      exact gives_eq rfl rfl
    · obtain ⟨j, hr⟩ := quote_all s hb (by omega)
      rw [hr] at h5
      have hta := textA_ro (rn s)
      have hok : ∀ c ∈ rn s, charOK c := rn_ok s.length s
      have hn : (rn s).length ≤ 1024 := by have := rn_len_q s; omega
      have h413 := good413 (rn s) hn hok
      generalize htt : textA (rn s) = tt at *
      obtain ⟨a1, a2⟩ := tt
      have hro5 : roL (tokC 2 (quoteB s) 0 a1 a2 ++ endTok j) = true := by
        simp only [roL,Bool.and_true,Bool.and_eq_true] at hta
        simp [tokC, endTok, roL, V.ro, hta.1, hta.2, nilV]
      simp -implicitDefEqProofs (disch := omega) only [↓ZD,ZP,cnd_t,cnd_f,↓reduceIte,Env.put,stepO,lenV,binV,binInt,unV,loadV,sliceV,boundOf,convV,slstrV,if_pos,if_neg,Int.reduceToNat,Nat.reducePow,V.cells,V.isCell,V.boxable,Nat.reduceEqDiff,reduceCtorEq,reduceIte,ite_self,enterEnv,e0]
      refine calP_ro rfl h13 (by simp [V.ro, roL, rsl, hrl]) ?_
      simp -implicitDefEqProofs (disch := omega) only [↓ZD,ZP,cnd_t,cnd_f,↓reduceIte,Env.put,stepO,lenV,binV,binInt,unV,loadV,sliceV,boundOf,convV,slstrV,if_pos,if_neg,Int.reduceToNat,Nat.reducePow,V.cells,V.isCell,V.boxable,Nat.reduceEqDiff,reduceCtorEq,reduceIte,ite_self,enterEnv,e0]
      refine calP_ro rfl h12 rfl ?_
      simp -implicitDefEqProofs (disch := omega) only [↓ZD,ZP,cnd_t,cnd_f,↓reduceIte,Env.put,stepO,lenV,binV,binInt,unV,loadV,sliceV,boundOf,convV,slstrV,if_pos,if_neg,Int.reduceToNat,Nat.reducePow,V.cells,V.isCell,V.boxable,Nat.reduceEqDiff,reduceCtorEq,reduceIte,ite_self,enterEnv,e0]
      refine calP_ro rfl h5 (by simp [V.ro, roL, hro5]) ?_
      simp only at h413
      have htb : roL [V.agg [a1, a2]] = true := by
        simp only [roL,V.ro,Bool.and_true] at hta ⊢
        exact hta
      simp -implicitDefEqProofs (disch := omega) only [↓ZD,ZP,cnd_t,cnd_f,↓reduceIte,Env.put,stepO,lenV,binV,binInt,unV,loadV,sliceV,boundOf,convV,slstrV,if_pos,if_neg,Int.reduceToNat,Nat.reducePow,V.cells,V.isCell,V.boxable,Nat.reduceEqDiff,reduceCtorEq,reduceIte,ite_self,enterEnv,e0,bne,hlong,tokC,endTok,rsl,Nat.zero_mul,binStr,fillL,evParts,splice,List.take_zero,List.take_succ_cons,List.drop_succ_cons,List.drop_zero,List.drop_nil]
      refine calP_ro htb h413 (itemsR_ro' _) ?_
      rw [itemsR]
      by_cases hnil : rn s = []
      · rw [if_pos hnil, hnil]
        simp -implicitDefEqProofs (disch := omega) only [↓ZD,ZP,cnd_t,cnd_f,↓reduceIte,Env.put,stepO,lenV,binV,binInt,unV,loadV,sliceV,boundOf,convV,slstrV,if_pos,if_neg,Int.reduceToNat,Nat.reducePow,V.cells,V.isCell,V.boxable,Nat.reduceEqDiff,reduceCtorEq,reduceIte,ite_self,enterEnv,rl,Nat.zero_mul,fillL,evParts,splice,List.take_zero,List.take_succ_cons,List.drop_succ_cons,List.drop_zero,List.drop_nil,bne]
        rw [hnil, itemsR, if_pos rfl] at h413
        refine calP_ro htb h413 rfl ?_
        simp -implicitDefEqProofs (disch := omega) only [↓ZD,ZP,cnd_t,cnd_f,↓reduceIte,Env.put,stepO,lenV,binV,binInt,unV,loadV,sliceV,boundOf,convV,slstrV,if_pos,if_neg,Int.reduceToNat,Nat.reducePow,V.cells,V.isCell,V.boxable,Nat.reduceEqDiff,reduceCtorEq,reduceIte,ite_self,enterEnv,rl,Nat.zero_mul,fillL,evParts,splice,List.take_zero,List.take_succ_cons,List.drop_succ_cons,List.drop_zero,List.drop_nil,bne]
        refine go_loop (fun m e H => e 10 = .sl true [] 0 ∧ e 11 = .int .i64 ((0 : Nat) : Int)) 0 ⟨by simp [Env.set], by simp [Env.set]⟩ ?_
        rintro m e H ⟨e10, e11⟩
        simp -implicitDefEqProofs (disch := omega) only [↓ZD,ZP,cnd_t,cnd_f,↓reduceIte,Env.put,stepO,lenV,binV,binInt,unV,loadV,sliceV,boundOf,convV,slstrV,if_pos,if_neg,Int.reduceToNat,Nat.reducePow,V.cells,V.isCell,V.boxable,Nat.reduceEqDiff,reduceCtorEq,reduceIte,ite_self,enterEnv,e10,e11]
        refine calP_ro rfl good6 rfl ?_
        simp -implicitDefEqProofs (disch := omega) only [↓ZD,ZP,cnd_t,cnd_f,↓reduceIte,Env.put,stepO,lenV,binV,binInt,unV,loadV,sliceV,boundOf,convV,slstrV,if_pos,if_neg,Int.reduceToNat,Nat.reducePow,V.cells,V.isCell,V.boxable,Nat.reduceEqDiff,reduceCtorEq,reduceIte,ite_self,enterEnv,e10,e11]
        exact gives_eq rfl rfl
      · rw [if_neg hnil]
        simp -implicitDefEqProofs (disch := omega) only [↓ZD,ZP,cnd_t,cnd_f,↓reduceIte,Env.put,stepO,lenV,binV,binInt,unV,loadV,sliceV,boundOf,convV,slstrV,if_pos,if_neg,Int.reduceToNat,Nat.reducePow,V.cells,V.isCell,V.boxable,Nat.reduceEqDiff,reduceCtorEq,reduceIte,ite_self,enterEnv,bne,rl_len,Nat.zero_mul,fillL,evParts,splice,List.take_zero,List.take_succ_cons,List.drop_succ_cons,List.drop_zero,List.drop_nil]
        rw [itemsR, if_neg hnil] at h413
        have hiq := itemsQ_ro (rn s)
        refine calP_ro htb h413 (by simp [V.ro, hiq]) ?_
        simp -implicitDefEqProofs (disch := omega) only [↓ZD,ZP,cnd_t,cnd_f,↓reduceIte,Env.put,stepO,lenV,binV,binInt,unV,loadV,sliceV,boundOf,convV,slstrV,if_pos,if_neg,Int.reduceToNat,Nat.reducePow,V.cells,V.isCell,V.boxable,Nat.reduceEqDiff,reduceCtorEq,reduceIte,ite_self,enterEnv,bne,rl_len,Nat.zero_mul,fillL,evParts,splice,List.take_zero,List.take_succ_cons,List.drop_succ_cons,List.drop_zero,List.drop_nil]
        clear e0 hr h5 h13 h12 h413
        refine go_loop (fun m e H => ∃ k : Nat, k ≤ (rn s).length ∧ m = (rn s).length - k ∧ e 3 = .sl false (rl (rn s)) (rn s).length ∧ e 10 = .sl false ((rn s).map itemQ).flatten (rn s).length ∧ e 11 = .int .i64 (k : Nat)) (rn s).length ⟨0, Nat.zero_le _, rfl, by simp [Env.set], by simp [Env.set], by simp [Env.set]⟩ ?_
        rintro m e H ⟨k, hk, rfl, e3, e10, e11⟩
        have hil := itemsQ_len (rn s)
        rcases Nat.lt_or_ge k (rn s).length with hlt | hge
        · have h4 := itemsQ_4 hlt
          have h1 := rl_at hlt
          have hll := rl_len (rn s)
          generalize ((rn s).map itemQ).flatten = Q at *
          simp -implicitDefEqProofs (disch := omega) only [↓ZD,ZP,cnd_t,cnd_f,↓reduceIte,Env.put,stepO,lenV,binV,binInt,unV,loadV,sliceV,boundOf,convV,slstrV,if_pos,if_neg,Int.reduceToNat,Nat.reducePow,V.cells,V.isCell,V.boxable,Nat.reduceEqDiff,reduceCtorEq,reduceIte,ite_self,enterEnv,e3,e10,e11,hlt,h4,h1,hil,hll,bne]
          exact ⟨_, by omega, k + 1, by omega, rfl, rfl⟩
        · have hge' : ¬ k < (rn s).length := by omega
          simp -implicitDefEqProofs (disch := omega) only [↓ZD,ZP,cnd_t,cnd_f,↓reduceIte,Env.put,stepO,lenV,binV,binInt,unV,loadV,sliceV,boundOf,convV,slstrV,if_pos,if_neg,Int.reduceToNat,Nat.reducePow,V.cells,V.isCell,V.boxable,Nat.reduceEqDiff,reduceCtorEq,reduceIte,ite_self,enterEnv,e3,e10,e11,hge']
          refine calP_ro rfl good6 rfl ?_
          simp -implicitDefEqProofs (disch := omega) only [↓ZD,ZP,cnd_t,cnd_f,↓reduceIte,Env.put,stepO,lenV,binV,binInt,unV,loadV,sliceV,boundOf,convV,slstrV,if_pos,if_neg,Int.reduceToNat,Nat.reducePow,V.cells,V.isCell,V.boxable,Nat.reduceEqDiff,reduceCtorEq,reduceIte,ite_self,enterEnv,e3,e10,e11]
          exact gives_eq rfl rfl
end Fe
