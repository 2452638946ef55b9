/-
  Contracts; contract: a token by the reference; contract: a line's tokens by the reference; contracts; contracts. No condition.
-/
import Derived.Test.YtfpgfjmngkfdoaaGreatDoorFhF
set_option linter.unusedSimpArgs false
set_option linter.unusedVariables false
open Go Go.Proofs
namespace Fe

/-! ### A number's text, by the reference -/
def nmk (c : Nat) : Bool := !(decide (c = 46) || decide (c = 114))
theorem numC_lt {c : Nat} (h : numC c = true) : c < 128 := by
  simp only [numC,isD,Bool.or_eq_true,decide_eq_true_eq] at h
  omega
theorem encL_ascii {c : Nat} (h : c < 128) : encL (c : Int) = [UInt8.ofNat c] := encL1 (by unfold charOK; omega) h
theorem encs_ascii : ∀ {l : List Nat}, (∀ c ∈ l, numC c = true) → encs l = l.map UInt8.ofNat
  | [], _ => rfl
  | c :: l, h => by
    rw [encs_cons, encL_ascii (numC_lt (h c (List.mem_cons_self ..))), encs_ascii fun x hx => h x (List.mem_cons_of_mem _ hx)]
    rfl
theorem foldB (b : Bool) (A : List UInt8) (m : Nat) (hm : m ≠ 0) : ∀ (v : List Nat) (B : List UInt8), v.foldl pstep ⟨b, A, m, B⟩ = ⟨b, A, m, B ++ encs v⟩
  | [], B => by simp [encs]
  | c :: v, B => by
    rw [List.foldl_cons, pstep, if_neg (by simp [hm]), if_neg (by simp [hm]), foldB b A m hm v, encs_cons, List.append_assoc]
theorem foldA (b : Bool) : ∀ (t : List Nat) (A : List UInt8), t.foldl pstep ⟨b, A, 0, []⟩ = match t.dropWhile nmk with
    | [] => ⟨b, A ++ encs (t.takeWhile nmk), 0, []⟩
    | m :: v => ⟨b, A ++ encs (t.takeWhile nmk), m, encs v⟩
  | [], A => by simp [encs]
  | c :: t, A => by
    by_cases hc : c = 46 ∨ c = 114
    · have h : nmk c = false := by rcases hc with rfl | rfl <;> rfl
      rw [List.foldl_cons, pstep, if_pos ⟨rfl, hc⟩, List.dropWhile_cons, List.takeWhile_cons, h]
      simp only [Bool.false_eq_true,if_false,encs,List.map_nil,List.flatten_nil,List.append_nil]
      rw [foldB b A c (by omega) t []]
      rfl
    · have h : nmk c = true := by simp [nmk]; omega
      rw [List.foldl_cons, pstep, if_neg (by rintro ⟨_, h⟩; exact hc h), if_pos rfl, foldA b t, List.dropWhile_cons, List.takeWhile_cons, h]
      simp only [if_true,encs_cons,List.append_assoc]

theorem twj {p : Nat → Bool} : ∀ {l : List Nat} {c : Nat}, c ∈ l.takeWhile p → p c = true
  | [], c, h => by simp at h
  | d :: l, c, h => by
    rw [List.takeWhile_cons] at h
    split at h
    · rename_i hd
      rcases List.mem_cons.1 h with rfl | h
      · exact hd
      · exact twj h
    · simp at h
theorem dw_head {p : Nat → Bool} : ∀ {t : List Nat} {m : Nat} {v : List Nat}, t.dropWhile p = m :: v → p m = false
  | c :: t, m, v, h => by
    rw [List.dropWhile_cons] at h
    cases hc : p c with
    | true => rw [hc] at h; exact dw_head h
    | false => rw [hc] at h; simp at h; rw [← h.1]; exact hc

theorem enc175 : encL ((175 : Nat) : Int) = [194, 175] := by decide
theorem ne194 {c : Nat} (hlt : c < 128) : (UInt8.ofNat c == 194) = false := by
  rw [beq_eq_false_iff_ne]
  intro h
  have := congrArg UInt8.toNat h
  rw [toNat_of (by omega)] at this
  have h2 : (194 : UInt8).toNat = 194 := by decide
  omega
theorem t2 {w : List Nat} {c : Nat} (this : (UInt8.ofNat c == 194) = false) : ((UInt8.ofNat c :: w.map UInt8.ofNat).take 2 == [194, 175]) = false := by
  cases w with
  | nil => simp
  | cons d w => simp [this]
theorem word_ref {c : Nat} {w : List Nat} (hc : isD c = true ∨ c = 175) (hw : ∀ x ∈ w, numC x = true) (hrn : rn (encs (c :: w)) = c :: w) :
    ∃ (below : Bool) (t : List Nat), (∀ x ∈ t, numC x = true) ∧ encs (c :: w) = (if below = true then [194, 175] else []) ++ encs t ∧ parts (encs (c :: w)) = t.foldl pstep ⟨below, [], 0, []⟩ ∧ (below = false → ((encs (c :: w)).take 2 == [194, 175]) = false) := by
  by_cases h175 : c = 175
  · refine ⟨true, w, hw, ?_, ?_, fun h => by cases h⟩
    · rw [encs_cons, h175]
      rw [enc175, if_pos rfl]
    · rw [parts, hrn]
      show (if c = 175 then _ else _) = _
      rw [if_pos h175]
  · have hd : isD c = true := hc.resolve_right h175
    have hn : numC c = true := by simp [numC, hd]
    have hall : ∀ x ∈ c :: w, numC x = true := fun x hx => by
      rcases List.mem_cons.1 hx with rfl | hx
      · exact hn
      · exact hw x hx
    refine ⟨false, c :: w, hall, ?_, ?_, fun _ => ?_⟩
    · rw [if_neg (by decide), List.nil_append]
    · rw [parts, hrn]
      show (if c = 175 then _ else _) = _
      rw [if_neg h175]
    · rw [encs_ascii hall, List.map_cons]
      exact t2 (ne194 (numC_lt hn))

theorem mark_ref {t : List Nat} (ht : ∀ x ∈ t, numC x = true) : (∀ x ∈ encs (t.takeWhile nmk), ¬ markB x) ∧ (encs (t.dropWhile nmk) = [] ∨ ∃ M W, encs (t.dropWhile nmk) = M :: W ∧ markB M) := by
  have hsplit : t.takeWhile nmk ++ t.dropWhile nmk = t := List.takeWhile_append_dropWhile
  refine ⟨?_, ?_⟩
  · intro x hx
    have hin : ∀ y ∈ t.takeWhile nmk, numC y = true := fun y hy => ht y (by rw [← hsplit]; exact List.mem_append_left _ hy)
    rw [encs_ascii hin] at hx
    obtain ⟨y, hy, rfl⟩ := List.mem_map.1 hx
    have h1 := twj hy
    have h2 := numC_lt (hin y hy)
    simp [nmk] at h1
    unfold markB
    rw [toNat_of (by omega)]
    omega
  · cases hd : t.dropWhile nmk with
    | nil => exact .inl rfl
    | cons m v =>
      have hm := dw_head hd
      have hml : m < 128 := numC_lt (ht m (by rw [← hsplit, hd]; simp))
      refine .inr ⟨UInt8.ofNat m, encs v, by rw [encs_cons, encL_ascii hml]; rfl, ?_⟩
      unfold markB
      rw [toNat_of (by omega)]
      simp [nmk] at hm
      omega

theorem value_ref {s : List UInt8} {t : List Nat} {below : Bool} (ht : ∀ x ∈ t, numC x = true) (hpart : parts s = t.foldl pstep ⟨below, [], 0, []⟩) : ratP s = (if 700 < (rn s).length then (rv false 0 0, 8) else ratX below (encs (t.takeWhile nmk)) (encs (t.dropWhile nmk))) := by
  have hsplit : t.takeWhile nmk ++ t.dropWhile nmk = t := List.takeWhile_append_dropWhile
  rw [ratP, hpart, foldA]
  generalize (rn s).length = N
  by_cases hN7 : 700 < N
  · simp only [if_pos hN7]
  simp only [if_neg hN7]
  cases hd : t.dropWhile nmk with
  | nil =>
    simp only [List.nil_append]
    rw [show encs [] = [] from rfl, ratX]
    by_cases h1 : (natP (encs (t.takeWhile nmk))).2 = false
    · rw [if_pos (.inl h1), if_pos h1]
    · rw [if_neg (by simp [h1]), if_neg h1, if_neg (by decide), if_neg (by decide)]
  | cons m v =>
    have hm := dw_head hd
    have hml : m < 128 := numC_lt (ht m (by rw [← hsplit, hd]; simp))
    have hm2 : m = 46 ∨ m = 114 := by simp [nmk] at hm; omega
    have hv : ∀ y ∈ v, numC y = true := fun y hy => ht y (by rw [← hsplit, hd]; simp [hy])
    have hvl : (encs v).length = v.length := by rw [encs_ascii hv, List.length_map]
    have hvr : (rn (encs v)).length = v.length := by rw [rn_encs _ fun y hy => by have := numC_lt (hv y hy); unfold charOK; omega]
    simp only [List.nil_append]
    rw [encs_cons, encL_ascii hml, List.cons_append, List.nil_append, ratX, toNat_of (by omega), hvl, hvr]
    have hm0 : m ≠ 0 := by omega
    generalize natP (encs (t.takeWhile nmk)) = A
    generalize natP (encs v) = B
    clear hvl hvr hd hm
    by_cases h1 : A.2 = false ∨ B.2 = false ∨ m = 114 ∧ B.1 = 0
    · rw [if_pos h1, if_pos (by rcases h1 with h | h | h; exact .inl h; exact .inr (.inl ⟨hm0, h⟩); exact .inr (.inr h))]
    · rw [if_neg h1, if_neg (by rintro (h | h | h); exact h1 (.inl h); exact h1 (.inr (.inl h.2)); exact h1 (.inr (.inr h)))]
      by_cases h114 : m = 114
      · rw [if_pos h114, if_pos h114]
      · rw [if_neg h114, if_pos (hm2.resolve_right h114), if_neg h114]

theorem ratP_ref {c : Nat} {w : List Nat} (hc : isD c = true ∨ c = 175) (hw : ∀ x ∈ w, numC x = true) : ∃ (below : Bool) (U R : List UInt8),
    encs (c :: w) = (if below = true then [194, 175] else []) ++ (U ++ R) ∧ (below = false → ((encs (c :: w)).take 2 == [194, 175]) = false) ∧ (∀ x ∈ U, ¬ markB x) ∧ (R = [] ∨ ∃ M W, R = M :: W ∧ markB M) ∧
    ratP (encs (c :: w)) = (if 700 < (rn (encs (c :: w))).length then (rv false 0 0, 8) else ratX below U R) := by
  have hok : ∀ x ∈ c :: w, charOK x := by
    intro x hx
    rcases List.mem_cons.1 hx with rfl | hx
    · unfold charOK
      rcases hc with h | h
      · simp [isD] at h; omega
      · omega
    · have := numC_lt (hw x hx); unfold charOK; omega
  obtain ⟨below, t, ht, henc, hpart, hb⟩ := word_ref hc hw (rn_encs _ hok)
  have hsplit : t.takeWhile nmk ++ t.dropWhile nmk = t := List.takeWhile_append_dropWhile
  obtain ⟨m1, m2⟩ := mark_ref ht
  exact ⟨below, _, _, by rw [henc, ← encs_app, hsplit], hb, m1, m2, value_ref ht hpart⟩
end Fe
open Go Go.Proofs
namespace Fe
def b421 : C :=
 (.seq
 (.region false [
 oQ 4 (.box (.c (.agg [.int .i64 0, .str [], .int .i64 0, .sl true [] 0, .sl true [] 0]))),
 oQ 5 (.mov (.c (.int .i64 0))),
 oQ 6 (.mov (.c (.int .i64 0)))])
 (.seq
 (.region false [
 oQ 13 (.mov (.t 0)),
 oQ 14 (.mov (.t 1)),
 oQ 15 (.iaddr 1 (.t 13) (.t 14)),
 oQ 16 (.load false 1 (.t 15)),
 oQ 7 (.mov (.t 16))])
 (.seq
 (.region false [
 oQ 17 (.mov (.t 1)),
 oQ 18 (.bin 0 .add (.t 17) (.c (.int .i64 1))),
 oQ 8 (.mov (.t 18))])
 (.seq
 (.region false [
 oQ 19 (.mov (.t 1)),
 oQ 20 (.build [.int .i64 0, .str [], .int .i64 0, .sl true [] 0, .sl true [] 0] [(2, (1, .t 19))]),
 oQ 9 (.box (.c (.agg [.int .i64 0, .str [], .int .i64 0, .sl true [] 0, .sl true [] 0]))),
 ⟨none, .op (.store 5 (.t 9) (.t 20)), none⟩])
 (.seq
 (.block 0
 (.seq
 (.region false [
 oQ 23 (.mov (.t 7)),
 ⟨some 24, .call false (.c (.fn 150 [] [])) [.t 23], none⟩,
 oQ 25 (.mov (.t 24)),
 ⟨some 26, .op (.mov (.t 7)), some (25, false)⟩,
 ⟨some 27, .op (.bin 0 .eql (.t 26) (.c (.int .i32 175))), some (25, false)⟩,
 oQ 28 (.pick (.t 25) (.c (.bool true)) (.t 27)),
 oQ 22 (.mov (.t 28))])
 (.cond (.t 22)
 (.seq
 (.block 1
 (.loop
 (.seq
 (.seq
 (.region false [
 oQ 29 (.mov (.t 8)),
 oQ 30 (.mov (.t 0)),
 oQ 31 (.len false (.t 30)),
 oQ 32 (.bin 0 .lss (.t 29) (.t 31)),
 oQ 33 (.mov (.t 32)),
 ⟨some 34, .op (.mov (.t 0)), some (33, true)⟩,
 ⟨some 35, .op (.mov (.t 8)), some (33, true)⟩,
 ⟨some 36, .op (.iaddr 1 (.t 34) (.t 35)), some (33, true)⟩,
 ⟨some 37, .op (.load false 1 (.t 36)), some (33, true)⟩,
 ⟨some 38, .call false (.c (.fn 150 [] [])) [.t 37], some (33, true)⟩,
 ⟨some 39, .op (.mov (.t 38)), some (33, true)⟩,
 ⟨some 40, .op (.mov (.t 0)), some (39, false)⟩,
 ⟨some 41, .op (.mov (.t 8)), some (39, false)⟩,
 ⟨some 42, .op (.iaddr 1 (.t 40) (.t 41)), some (39, false)⟩,
 ⟨some 43, .op (.load false 1 (.t 42)), some (39, false)⟩,
 ⟨some 44, .op (.bin 0 .eql (.t 43) (.c (.int .i32 46))), some (39, false)⟩,
 ⟨some 45, .op (.pick (.t 39) (.c (.bool true)) (.t 44)), some (33, true)⟩,
 ⟨some 46, .op (.mov (.t 45)), some (33, true)⟩,
 ⟨some 47, .op (.mov (.t 0)), some (46, false)⟩,
 ⟨some 48, .op (.mov (.t 8)), some (46, false)⟩,
 ⟨some 49, .op (.iaddr 1 (.t 47) (.t 48)), some (46, false)⟩,
 ⟨some 50, .op (.load false 1 (.t 49)), some (46, false)⟩,
 ⟨some 51, .op (.bin 0 .eql (.t 50) (.c (.int .i32 114))), some (46, false)⟩,
 ⟨some 52, .op (.pick (.t 46) (.c (.bool true)) (.t 51)), some (33, true)⟩,
 oQ 53 (.pick (.t 33) (.t 52) (.c (.bool false)))])
 (.cond (.t 53)
 .skip
 (.exit 1)))
 (.block 2
 (.region false [
 oQ 54 (.mov (.t 8)),
 oQ 55 (.bin 0 .add (.t 54) (.c (.int .i64 1))),
 oQ 8 (.mov (.t 55))])))))
 (.seq
 (.region false [
 oQ 57 (.mov (.t 0)),
 oQ 58 (.mov (.t 1)),
 oQ 59 (.mov (.t 8)),
 oQ 60 (.slice 1 (.t 57) (some (.t 58)) (some (.t 59)) none),
 oQ 61 (.conv .runesStr (.t 60)),
 ⟨some 62, .call false (.c (.fn 151 [] [])) [.t 61], none⟩,
 oQ 56 (.mov (.t 62)),
 oQ 63 (.extract (.t 56) 0),
 oQ 64 (.extract (.t 56) 1),
 oQ 10 (.box (.c (.agg [.bool false, .sl true [] 0, .sl true [] 0]))),
 ⟨none, .op (.store 3 (.t 10) (.t 63)), none⟩,
 oQ 11 (.mov (.t 64))])
 (.seq
 (.seq
 (.region false [
 oQ 65 (.mov (.t 11)),
 oQ 66 (.bin 0 .neq (.t 65) (.c (.int .i64 0)))])
 (.cond (.t 66)
 (.seq
 (.region false [
 oQ 67 (.build [.int .i64 0, .str [], .int .i64 0, .sl true [] 0, .sl true [] 0] []),
 oQ 68 (.mov (.t 11)),
 ⟨none, .op (.store 5 (.t 4) (.t 67)), none⟩,
 oQ 5 (.mov (.c (.int .i64 0))),
 oQ 6 (.mov (.t 68))])
 .ret)
 .skip))
 (.region false [
 oQ 69 (.load true 3 (.t 10)),
 ⟨some 70, .call false (.c (.fn 152 [] [])) [.t 69], none⟩,
 oQ 71 (.faddr 0 (.t 9)),
 ⟨none, .op (.store 1 (.t 71) (.c (.int .i64 1))), none⟩,
 oQ 72 (.faddr 3 (.t 9)),
 ⟨none, .op (.store 2 (.t 72) (.t 70)), none⟩]))))
 (.seq
 (.region false [
 oQ 74 (.mov (.t 7)),
 oQ 75 (.bin 0 .eql (.t 74) (.c (.int .i32 39))),
 oQ 73 (.mov (.t 75))])
 (.cond (.t 73)
 (.seq
 (.region false [
 oQ 12 (.mov (.c (.sl true [] 0)))])
 (.seq
 (.block 3
 (.loop
 (.block 4
 (.seq
 (.seq
 (.region false [
 oQ 76 (.mov (.t 8)),
 oQ 77 (.mov (.t 0)),
 oQ 78 (.len false (.t 77)),
 oQ 79 (.bin 0 .geq (.t 76) (.t 78))])
 (.cond (.t 79)
 (.seq
 (.region false [
 oQ 80 (.build [.int .i64 0, .str [], .int .i64 0, .sl true [] 0, .sl true [] 0] []),
 ⟨none, .op (.store 5 (.t 4) (.t 80)), none⟩,
 oQ 5 (.mov (.c (.int .i64 0))),
 oQ 6 (.mov (.c (.int .i64 26)))])
 .ret)
 .skip))
 (.seq
 (.seq
 (.region false [
 oQ 81 (.mov (.t 0)),
 oQ 82 (.mov (.t 8)),
 oQ 83 (.iaddr 1 (.t 81) (.t 82)),
 oQ 84 (.load false 1 (.t 83)),
 oQ 85 (.bin 0 .eql (.t 84) (.c (.int .i32 39)))])
 (.cond (.t 85)
 (.seq
 (.region false [
 oQ 86 (.mov (.t 8)),
 oQ 87 (.bin 0 .add (.t 86) (.c (.int .i64 1))),
 oQ 88 (.mov (.t 0)),
 oQ 89 (.len false (.t 88)),
 oQ 90 (.bin 0 .lss (.t 87) (.t 89)),
 oQ 91 (.mov (.t 90)),
 ⟨some 92, .op (.mov (.t 0)), some (91, true)⟩,
 ⟨some 93, .op (.mov (.t 8)), some (91, true)⟩,
 ⟨some 94, .op (.bin 0 .add (.t 93) (.c (.int .i64 1))), some (91, true)⟩,
 ⟨some 95, .op (.iaddr 1 (.t 92) (.t 94)), some (91, true)⟩,
 ⟨some 96, .op (.load false 1 (.t 95)), some (91, true)⟩,
 ⟨some 97, .op (.bin 0 .eql (.t 96) (.c (.int .i32 39))), some (91, true)⟩,
 oQ 98 (.pick (.t 91) (.t 97) (.c (.bool false)))])
 (.cond (.t 98)
 (.region false [
 oQ 99 (.mov (.t 8)),
 oQ 100 (.bin 0 .add (.t 99) (.c (.int .i64 1))),
 oQ 8 (.mov (.t 100))])
 (.exit 3)))
 .skip))
 (.seq
 (.region false [
 oQ 101 (.mov (.t 12)),
 oQ 102 (.mov (.t 0)),
 oQ 103 (.mov (.t 8)),
 oQ 104 (.iaddr 1 (.t 102) (.t 103)),
 oQ 105 (.load false 1 (.t 104)),
 oQ 106 (.mksl [.int .i32 0] 1 [(0, (1, .t 105))]),
 oQ 107 (.append 1 4 (.t 101) (.t 106)),
 oQ 12 (.mov (.t 107))])
 (.region false [
 oQ 108 (.mov (.t 8)),
 oQ 109 (.bin 0 .add (.t 108) (.c (.int .i64 1))),
 oQ 8 (.mov (.t 109))])))))))
 (.seq
 (.region false [
 oQ 110 (.mov (.t 8)),
 oQ 111 (.bin 0 .add (.t 110) (.c (.int .i64 1))),
 oQ 8 (.mov (.t 111))])
 (.seq
 (.region false [
 oQ 112 (.mov (.t 12)),
 oQ 113 (.conv .runesStr (.t 112)),
 ⟨some 114, .call false (.c (.fn 153 [] [])) [.t 113], none⟩,
 oQ 115 (.faddr 0 (.t 9)),
 ⟨none, .op (.store 1 (.t 115) (.c (.int .i64 2))), none⟩,
 oQ 116 (.faddr 3 (.t 9)),
 ⟨none, .op (.store 2 (.t 116) (.t 114)), none⟩])
 (.seq
 (.region false [
 oQ 117 (.mov (.t 12)),
 oQ 118 (.len false (.t 117)),
 oQ 119 (.bin 0 .eql (.t 118) (.c (.int .i64 1)))])
 (.cond (.t 119)
 (.region false [
 oQ 120 (.mov (.t 12)),
 oQ 121 (.iaddr 1 (.t 120) (.c (.int .i64 0))),
 oQ 122 (.load false 1 (.t 121)),
 ⟨some 123, .call false (.c (.fn 154 [] [])) [.t 122], none⟩,
 oQ 124 (.faddr 3 (.t 9)),
 ⟨none, .op (.store 2 (.t 124) (.t 123)), none⟩])
 .skip))))))
 (.seq
 (.region false [
 oQ 126 (.mov (.t 7)),
 ⟨some 127, .call false (.c (.fn 155 [] [])) [.t 126], none⟩,
 oQ 125 (.mov (.t 127))])
 (.cond (.t 125)
 (.seq
 (.block 5
 (.loop
 (.seq
 (.seq
 (.region false [
 oQ 128 (.mov (.t 8)),
 oQ 129 (.mov (.t 0)),
 oQ 130 (.len false (.t 129)),
 oQ 131 (.bin 0 .lss (.t 128) (.t 130)),
 oQ 132 (.mov (.t 131)),
 ⟨some 133, .op (.mov (.t 0)), some (132, true)⟩,
 ⟨some 134, .op (.mov (.t 8)), some (132, true)⟩,
 ⟨some 135, .op (.iaddr 1 (.t 133) (.t 134)), some (132, true)⟩,
 ⟨some 136, .op (.load false 1 (.t 135)), some (132, true)⟩,
 ⟨some 137, .call false (.c (.fn 155 [] [])) [.t 136], some (132, true)⟩,
 ⟨some 138, .op (.mov (.t 137)), some (132, true)⟩,
 ⟨some 139, .op (.mov (.t 0)), some (138, false)⟩,
 ⟨some 140, .op (.mov (.t 8)), some (138, false)⟩,
 ⟨some 141, .op (.iaddr 1 (.t 139) (.t 140)), some (138, false)⟩,
 ⟨some 142, .op (.load false 1 (.t 141)), some (138, false)⟩,
 ⟨some 143, .call false (.c (.fn 150 [] [])) [.t 142], some (138, false)⟩,
 ⟨some 144, .op (.pick (.t 138) (.c (.bool true)) (.t 143)), some (132, true)⟩,
 oQ 145 (.pick (.t 132) (.t 144) (.c (.bool false)))])
 (.cond (.t 145)
 .skip
 (.exit 5)))
 (.block 6
 (.region false [
 oQ 146 (.mov (.t 8)),
 oQ 147 (.bin 0 .add (.t 146) (.c (.int .i64 1))),
 oQ 8 (.mov (.t 147))])))))
 (.seq
 (.seq
 (.region false [
 oQ 148 (.mov (.t 8)),
 oQ 149 (.mov (.t 1)),
 oQ 150 (.bin 0 .sub (.t 148) (.t 149)),
 oQ 151 (.bin 0 .gtr (.t 150) (.c (.int .i64 32)))])
 (.cond (.t 151)
 (.seq
 (.region false [
 oQ 152 (.build [.int .i64 0, .str [], .int .i64 0, .sl true [] 0, .sl true [] 0] []),
 ⟨none, .op (.store 5 (.t 4) (.t 152)), none⟩,
 oQ 5 (.mov (.c (.int .i64 0))),
 oQ 6 (.mov (.c (.int .i64 27)))])
 .ret)
 .skip))
 (.region false [
 oQ 153 (.faddr 0 (.t 9)),
 ⟨none, .op (.store 1 (.t 153) (.c (.int .i64 3))), none⟩])))
 (.seq
 (.region false [
 oQ 155 (.mov (.t 7)),
 oQ 156 (.bin 0 .eql (.t 155) (.c (.int .i32 9109))),
 oQ 154 (.mov (.t 156))])
 (.cond (.t 154)
 (.seq
 (.block 7
 (.loop
 (.seq
 (.seq
 (.region false [
 oQ 157 (.mov (.t 8)),
 oQ 158 (.mov (.t 0)),
 oQ 159 (.len false (.t 158)),
 oQ 160 (.bin 0 .lss (.t 157) (.t 159)),
 oQ 161 (.mov (.t 160)),
 ⟨some 162, .op (.mov (.t 0)), some (161, true)⟩,
 ⟨some 163, .op (.mov (.t 8)), some (161, true)⟩,
 ⟨some 164, .op (.iaddr 1 (.t 162) (.t 163)), some (161, true)⟩,
 ⟨some 165, .op (.load false 1 (.t 164)), some (161, true)⟩,
 ⟨some 166, .op (.bin 0 .geq (.t 165) (.c (.int .i32 65))), some (161, true)⟩,
 ⟨some 167, .op (.mov (.t 166)), some (161, true)⟩,
 ⟨some 168, .op (.mov (.t 0)), some (167, true)⟩,
 ⟨some 169, .op (.mov (.t 8)), some (167, true)⟩,
 ⟨some 170, .op (.iaddr 1 (.t 168) (.t 169)), some (167, true)⟩,
 ⟨some 171, .op (.load false 1 (.t 170)), some (167, true)⟩,
 ⟨some 172, .op (.bin 0 .leq (.t 171) (.c (.int .i32 90))), some (167, true)⟩,
 ⟨some 173, .op (.pick (.t 167) (.t 172) (.c (.bool false))), some (161, true)⟩,
 ⟨some 174, .op (.mov (.t 173)), some (161, true)⟩,
 ⟨some 175, .op (.mov (.t 0)), some (174, false)⟩,
 ⟨some 176, .op (.mov (.t 8)), some (174, false)⟩,
 ⟨some 177, .op (.iaddr 1 (.t 175) (.t 176)), some (174, false)⟩,
 ⟨some 178, .op (.load false 1 (.t 177)), some (174, false)⟩,
 ⟨some 179, .op (.bin 0 .geq (.t 178) (.c (.int .i32 97))), some (174, false)⟩,
 ⟨some 180, .op (.mov (.t 179)), some (174, false)⟩,
 ⟨some 181, .op (.mov (.t 0)), some (180, true)⟩,
 ⟨some 182, .op (.mov (.t 8)), some (180, true)⟩,
 ⟨some 183, .op (.iaddr 1 (.t 181) (.t 182)), some (180, true)⟩,
 ⟨some 184, .op (.load false 1 (.t 183)), some (180, true)⟩,
 ⟨some 185, .op (.bin 0 .leq (.t 184) (.c (.int .i32 122))), some (180, true)⟩,
 ⟨some 186, .op (.pick (.t 180) (.t 185) (.c (.bool false))), some (174, false)⟩,
 ⟨some 187, .op (.pick (.t 174) (.c (.bool true)) (.t 186)), some (161, true)⟩,
 oQ 188 (.pick (.t 161) (.t 187) (.c (.bool false)))])
 (.cond (.t 188)
 .skip
 (.exit 7)))
 (.block 8
 (.region false [
 oQ 189 (.mov (.t 8)),
 oQ 190 (.bin 0 .add (.t 189) (.c (.int .i64 1))),
 oQ 8 (.mov (.t 190))])))))
 (.region false [
 oQ 191 (.faddr 0 (.t 9)),
 ⟨none, .op (.store 1 (.t 191) (.c (.int .i64 4))), none⟩]))
 (.seq
 (.region false [
 oQ 193 (.mov (.t 7)),
 ⟨some 194, .call false (.c (.fn 156 [] [])) [.t 193], none⟩,
 oQ 192 (.mov (.t 194))])
 (.cond (.t 192)
 (.region false [
 oQ 195 (.faddr 0 (.t 9)),
 ⟨none, .op (.store 1 (.t 195) (.c (.int .i64 5))), none⟩])
 (.seq
 (.region false [
 oQ 197 (.mov (.t 7)),
 ⟨some 198, .call false (.c (.fn 158 [] [])) [], none⟩,
 ⟨some 199, .call false (.c (.fn 157 [] [])) [.t 197, .t 198], none⟩,
 oQ 196 (.mov (.t 199))])
 (.cond (.t 196)
 (.region false [
 oQ 200 (.faddr 0 (.t 9)),
 ⟨none, .op (.store 1 (.t 200) (.c (.int .i64 6))), none⟩])
 (.seq
 (.region false [
 oQ 21 (.build [.int .i64 0, .str [], .int .i64 0, .sl true [] 0, .sl true [] 0] []),
 ⟨none, .op (.store 5 (.t 4) (.t 21)), none⟩,
 oQ 5 (.mov (.c (.int .i64 0))),
 oQ 6 (.mov (.c (.int .i64 26)))])
 .ret))))))))))))))
 (.seq
 (.region false [
 oQ 201 (.mov (.t 0)),
 oQ 202 (.mov (.t 1)),
 oQ 203 (.mov (.t 8)),
 oQ 204 (.slice 1 (.t 201) (some (.t 202)) (some (.t 203)) none),
 oQ 205 (.conv .runesStr (.t 204)),
 oQ 206 (.faddr 1 (.t 9)),
 ⟨none, .op (.store 1 (.t 206) (.t 205)), none⟩])
 (.seq
 (.region false [
 oQ 207 (.load true 5 (.t 9)),
 oQ 208 (.mov (.t 8)),
 ⟨none, .op (.store 5 (.t 4) (.t 207)), none⟩,
 oQ 5 (.mov (.t 208)),
 oQ 6 (.mov (.c (.int .i64 0)))])
 .ret)))))))
def c421 : CF := ⟨209, 2, [.load true 5 (.t 4), .mov (.t 5), .mov (.t 6)], b421⟩
theorem s421 : stripF Go.Proofs.Tryz.prog 108 = some c421 := by kernel_rfl

/-! ### A token, by the reference -/
def itemRV (v : V) : List V := match v with
  | .agg [b, x, y] => [.int .u8 1, b, x, y, .int .i32 0, nilV]
  | _ => []
/-- The arrays that the reference makes of a token. -/
def arrS : List Nat → V × V
  | [] => (nilV, nilV)
  | c :: r => if isD c = true ∨ c = 175 then (nilV, .sl true (itemRV (ratP (encs (c :: r.takeWhile numC))).1) 1)
    else if c = 39 then (match textS r with
      | none => (nilV, nilV)
      | some (out, _) => if out.length = 1 then (nilV, .sl true (itemC' (out.headD 0)) 1)
        else (.sl false [.int .i64 (out.length : Nat)] 1, .sl false (if out = [] then itemC' 32 else (out.map itemC').flatten) (if out = [] then 1 else out.length)))
    else (nilV, nilV)
def zeroR : V := .agg [.int .i64 0, .str [], .int .i64 0, .sl true [] 0, .sl true [] 0]
def nextR (i : Nat) (l : List Nat) : V := match tokenS l with
  | .err e => .tup [zeroR, .int .i64 0, .int .i64 (e : Nat)]
  | .ok kind k _ _ => .tup [.agg [.int .i64 (kind : Nat), .str (encs (l.take k)), .int .i64 (i : Nat), (arrS l).1, (arrS l).2], .int .i64 ((i + k : Nat) : Int), .int .i64 0]
theorem nextR_err {i : Nat} {l : List Nat} {e : Nat} (h : tokenS l = .err e) : nextR i l = .tup [zeroR, .int .i64 0, .int .i64 (e : Nat)] := by rw [nextR, h]
theorem nextR_ok {i k kind : Nat} {l : List Nat} {a1 a2 : V} (h : tokenS l = .ok kind k a1 a2) : nextR i l = .tup [.agg [.int .i64 (kind : Nat), .str (encs (l.take k)), .int .i64 (i : Nat), (arrS l).1, (arrS l).2], .int .i64 ((i + k : Nat) : Int), .int .i64 0] := by rw [nextR, h]

theorem at_drop {rs : List Nat} {i c : Nat} {r : List Nat} (h : rs.drop i = c :: r) {pre post : List Nat} {x : Nat} (hr : r = pre ++ x :: post) {n : Nat} (hn : n = i + 1 + pre.length) : (rl rs)[n]? = some (.int .i32 (x : Nat)) := by
  refine rl_get ?_
  have : (rs.drop i)[1 + pre.length]? = some x := by rw [h, hr, Nat.add_comm 1]; simp
  rw [List.getElem?_drop] at this
  rw [hn, Nat.add_assoc]; exact this
theorem len_drop {rs : List Nat} {i c : Nat} {r : List Nat} (h : rs.drop i = c :: r) : rs.length = i + 1 + r.length := by
  have := congrArg List.length h
  rw [List.length_drop, List.length_cons] at this
  omega
theorem inI_nat (c : Nat) : ∀ l : List Nat, inI (c : Int) l = decide (c ∈ l)
  | [] => by simp [inI]
  | d :: l => by
    rw [inI_cons, inI_nat c l]
    by_cases h : d = c
    · simp [h]
    · have : ¬ ((d : Int) = (c : Int)) := by omega
      have h2 : ¬ c = d := fun h' => h h'.symm
      simp [this, h2]
theorem done_lmm {e : Env} {H : Heap} {g : Bool} {n : Nat} {x y z : X} {k : V → Heap → Prop} : Done [.load g n x, .mov y, .mov z] k .ret e H = onSome (loadV H.length g n H (x.ev e)) fun v => k (.tup [v, y.ev e, z.ev e]) H := by
  simp only [Done,resultsV,List.mapM_cons,List.mapM_nil,resultV_load,resultV_mov]
  cases loadV H.length g n H (x.ev e) <;> simp [onSome]
def tokH (i : Nat) : Heap := [.cells 0 0 true [.int .i64 0, .str [], .int .i64 0, .sl true [] 0, .sl true [] 0], .cells 0 0 true [.int .i64 0, .str [], .int .i64 (i : Nat), .sl true [] 0, .sl true [] 0]]

theorem append_out {H : Heap} {v : V} {l : List Nat} {b : Nat} (h : OutAt H v l b) (c : Nat) (ex : Bool) (hl : l.length ≤ 100000) :
    ∃ v' H', appendV 1 4 H v (.sl ex [.int .i32 (c : Nat)] 1) = some (v', H') ∧ OutAt H' v' (l ++ [c]) b ∧ ∀ k, k < b → H'[k]? = H[k]? := by
  rcases h with ⟨rfl, rfl, hb⟩ | ⟨g, rfl, hH, hb⟩
  · refine ⟨.view H.length 0 0 1, H ++ [.cells 0 1 true (rl [c])], by simp [appendV, srcCells, readSl, rl], .inr ⟨0, by rw [hb]; rfl, by rw [← hb]; simp, by simp [hb]⟩, fun k hk => List.getElem?_append_left (by omega)⟩
  · have hc : (rl l).length = l.length := rl_len l
    have ht : (rl l).take l.length = rl l := by rw [← hc, List.take_length]
    have ha : rl (l ++ [c]) = rl l ++ [.int .i32 (c : Nat)] := by simp [rl]
    have q1 : l.length ≤ (rl l).length := by omega
    have q2 : (l.length + 1) * 4 ≤ 140737488355328 := by omega
    have q3 : l.length + 1 ≤ 9223372036854775807 := by omega
    refine ⟨.view b (g + 1) 0 (l.length + 1), H.set b (.cells (g + 1) 1 true (rl (l ++ [c]))), ?_, .inr ⟨g + 1, by simp, by simp [hb], by simpa using hb⟩, fun k hk => List.getElem?_set_ne (by omega)⟩
    rw [ha]
    generalize rl l = F at *
    simp [appendV, srcCells, readSl, hH, V.isCell, q1, q2, q3, ht]
theorem OutAt.len {H : Heap} {v : V} {l : List Nat} {b : Nat} (h : OutAt H v l b) : b ≤ H.length := by
  rcases h with ⟨_, _, h⟩ | ⟨_, _, _, h⟩ <;> omega
theorem runesOf_nil : runesOf [] = some [] := rfl

set_option maxHeartbeats 4000000 in
theorem good421 (rs : List Nat) (i c : Nat) (r : List Nat) (hd : rs.drop i = c :: r) (hl : rs.length ≤ 1024) (hch : ∀ x ∈ rs, charOK x) : Good Go.Proofs.Tryz.prog 108 [rsl rs, .int .i64 (i : Nat)] (nextR i (c :: r)) := by
  refine good_go mix s421 (Nat.le_of_ble_eq_true rfl) fun e he => ?_
  have e0 : e 0 = rsl rs := he 0
  have e1 : e 1 = .int .i64 (i : Nat) := he 1
  clear he
  simp only [c421,b421, oQ]
  have hlen := len_drop hd
  have hat0 : (rl rs)[i]? = some (.int .i32 (c : Nat)) := by
    refine rl_get ?_
    have : (rs.drop i)[0]? = some c := by rw [hd]; rfl
    rw [List.getElem?_drop] at this
    exact this
  have hsub : ∀ n : Nat, (((i + n : Nat) : Int) - ((i : Nat) : Int)).toNat = n := fun n => by omega
  have hg := good438 c
  simp -implicitDefEqProofs (disch := omega) only [↓ZD,ZP,cnd_t,cnd_f,↓reduceIte,Env.put,stepO,lenV,binV,binInt,unV,loadV,sliceV,boundOf,convV,slstrV,if_pos,if_neg,Int.reduceToNat,Nat.reducePow,V.cells,V.isCell,V.boxable,Nat.reduceEqDiff,reduceCtorEq,reduceIte,ite_self,enterEnv,e0,e1,rsl,rl_len,hat0,fillL,evParts,splice,List.take_zero,List.take_succ_cons,List.drop_succ_cons,List.drop_zero,List.drop_nil]
  refine calP_ro rfl hg rfl ?_
  by_cases hnum : isD c = true ∨ c = 175
  · have go1 : ∀ (e' : Env), (∀ k, e' k = e' k) := fun _ _ => rfl
    have hcc : isD c = true ∨ (isD c = false ∧ c = 175) := by
      cases h : isD c with
      | true => exact .inl rfl
      | false => exact .inr ⟨rfl, hnum.resolve_left (by simp [h])⟩
    have start : ∀ (z : V), True := fun _ => trivial
    rcases hcc with hDt | ⟨hDf, h175⟩
    · simp -implicitDefEqProofs (disch := omega) only [↓ZD,ZP,cnd_t,cnd_f,↓reduceIte,Env.put,stepO,lenV,binV,binInt,unV,loadV,sliceV,boundOf,convV,slstrV,if_pos,if_neg,Int.reduceToNat,Nat.reducePow,V.cells,V.isCell,V.boxable,Nat.reduceEqDiff,reduceCtorEq,reduceIte,ite_self,enterEnv,e0,e1,rsl,rl_len,hat0,fillL,evParts,splice,List.take_zero,List.take_succ_cons,List.drop_succ_cons,List.drop_zero,List.drop_nil,hDt]
      refine go_loop (fun m e H => ∃ pre post, r = pre ++ post ∧ r.takeWhile numC = pre ++ post.takeWhile numC ∧ m = post.length ∧ H = tokH i ∧ e 0 = .sl false (rl rs) rs.length ∧ e 1 = .int .i64 (i : Nat) ∧ e 4 = .cell 0 0 0 ∧ e 7 = .int .i32 (c : Nat) ∧ e 8 = .int .i64 ((i + (1 + pre.length) : Nat) : Int) ∧ e 9 = .cell 1 0 0) r.length
        ⟨[], r, rfl, rfl, rfl, rfl, ?_, ?_, ?_, ?_, ?_, ?_⟩ ?_
      · simp [Env.set, e0, rsl]
      · simp [Env.set, e1]
      · simp [Env.set]
      · simp [Env.set]
      · simp [Env.set]
      · simp [Env.set]
      clear e0 e1
      rintro m e H ⟨pre, post, hr, htw, rfl, rfl, e0, e1, e4, e7, e8, e9⟩
      have hpl : r.length = pre.length + post.length := by rw [hr]; simp
      cases post with
      | nil =>
        simp only [List.length_nil,Nat.add_zero] at hpl
        have hw : r.takeWhile numC = pre := by rw [htw]; simp
        have htk : (rs.drop i).take (1 + pre.length) = c :: pre := by rw [hd, Nat.add_comm 1, List.take_succ_cons, ← hw, take_while_len]
        have htl : (rl (c :: pre)).length = 1 + pre.length := by rw [rl_len, List.length_cons, Nat.add_comm]
        have htk2 : (c :: r).take (1 + pre.length) = c :: pre := by rw [← hd]; exact htk
        have hin : ∀ z ∈ pre, numC z = true := fun z hz => twj (by rw [hw]; exact hz : z ∈ r.takeWhile numC)
        obtain ⟨below, U, R, n1, n2, n3, n4, n5⟩ := ratP_ref (c := c) (w := pre) hnum hin
        have hel := encs_len (c :: pre)
        rw [List.length_cons] at hel
        have gp := good439 below U R (encs (c :: pre)) n1 n2 n3 n4 (by omega)
        rw [← n5] at gp
        obtain ⟨b, nx, dx, mx, hr2⟩ := ratP_agg (encs (c :: pre))
        rw [hr2] at gp
        simp -implicitDefEqProofs (disch := omega) only [↓ZD,ZP,cnd_t,cnd_f,↓reduceIte,Env.put,stepO,lenV,binV,binInt,unV,loadV,sliceV,boundOf,convV,slstrV,if_pos,if_neg,Int.reduceToNat,Nat.reducePow,V.cells,V.isCell,V.boxable,Nat.reduceEqDiff,reduceCtorEq,reduceIte,ite_self,enterEnv,e0,e1,e4,e7,e8,e9,fillL,evParts,splice,List.take_zero,List.take_succ_cons,List.drop_succ_cons,List.drop_zero,List.drop_nil,tokH,loadV,rl_len,slice_rl,convV,readSl,runesOf_rl,htk,htl,hsub]
        refine calP_ro rfl gp (by simp [pairV, V.ro, roL, rv_ro]) ?_
        by_cases hmx : mx = 0
        · subst hmx
          have htok : tokenS (c :: r) = .ok 1 (1 + pre.length) (.sl false [] 0) (.sl false (itemOf (ratP (encs (c :: pre))).1) 1) := by
            rw [tokenS, if_pos hnum, hw, numTok, hr2, if_pos rfl, List.length_cons, Nat.add_comm]
          have harr : arrS (c :: r) = (nilV, .sl true (itemR b nx dx) 1) := by rw [arrS, if_pos hnum, hw, hr2]; rfl
          rw [nextR_ok htok, harr, htk2]
          obtain ⟨b', x', y', hv, hn⟩ := ratP_ok hr2
          have hx1 : (lim nx).length ≤ 1000000 ∧ (lim dx).length ≤ 1000000 := by
            simp only [rv,V.agg.injEq,List.cons.injEq,nf,nsl,V.sl.injEq] at hv
            have h1 := hn.1
            have h2 := hn.2.1
            omega
          have gn := good440 b nx dx hx1.1 hx1.2
          simp -implicitDefEqProofs (disch := omega) only [↓ZD,ZP,cnd_t,cnd_f,↓reduceIte,Env.put,stepO,lenV,binV,binInt,unV,loadV,sliceV,boundOf,convV,slstrV,if_pos,if_neg,Int.reduceToNat,Nat.reducePow,V.cells,V.isCell,V.boxable,Nat.reduceEqDiff,reduceCtorEq,reduceIte,ite_self,enterEnv,e0,e1,e4,e7,e8,e9,pairV,rv,fillL,evParts,splice,List.take_zero,List.take_succ_cons,List.drop_succ_cons,List.drop_zero,List.drop_nil,tokH,loadV,nf,nsl]
          refine calP_ro (by simp [roL, V.ro, nl_ro]) gn (by simp [V.ro, roL, itemR, nf_ro]) ?_
          simp -implicitDefEqProofs (disch := omega) only [↓ZD,ZP,cnd_t,cnd_f,↓reduceIte,Env.put,stepO,lenV,binV,binInt,unV,loadV,sliceV,boundOf,convV,slstrV,if_pos,if_neg,Int.reduceToNat,Nat.reducePow,V.cells,V.isCell,V.boxable,Nat.reduceEqDiff,reduceCtorEq,reduceIte,ite_self,enterEnv,e0,e1,e4,e7,e8,e9,itemR,nf,nsl,fillL,evParts,splice,List.take_zero,List.take_succ_cons,List.drop_succ_cons,List.drop_zero,List.drop_nil,tokH,rl_len,slice_rl,convV,readSl,runesOf_rl,htk,htl,hsub,loadV,↓done_lmm]
          exact gives_ro (by simp [V.ro, roL, nl_ro, nilV])
        · have htok : tokenS (c :: r) = .err mx := by rw [tokenS, if_pos hnum, hw, numTok, hr2, if_neg hmx]
          rw [nextR_err htok]
          simp -implicitDefEqProofs (disch := omega) only [↓ZD,ZP,cnd_t,cnd_f,↓reduceIte,Env.put,stepO,lenV,binV,binInt,unV,loadV,sliceV,boundOf,convV,slstrV,if_pos,if_neg,Int.reduceToNat,Nat.reducePow,V.cells,V.isCell,V.boxable,Nat.reduceEqDiff,reduceCtorEq,reduceIte,ite_self,enterEnv,e0,e1,e4,e7,e8,e9,pairV,rv,fillL,evParts,splice,List.take_zero,List.take_succ_cons,List.drop_succ_cons,List.drop_zero,List.drop_nil,tokH,loadV,nf,nsl,↓done_lmm]
          exact gives_ro rfl
      | cons x post =>
        have hat := at_drop hd hr (n := i + (1 + pre.length)) (by omega)
        have hlt : i + (1 + pre.length) < rs.length := by simp only [List.length_cons] at hpl; omega
        have gy := good438 x
        by_cases hxn : numC x = true
        · have hq2 : isD x = true ∨ (isD x = false ∧ x = 46) ∨ (isD x = false ∧ x = 114) := by
            cases h : isD x with
            | true => exact .inl rfl
            | false => simp [numC, h] at hxn; rcases hxn with h | h; exact .inr (.inl ⟨rfl, h⟩); exact .inr (.inr ⟨rfl, h⟩)
          have go : ∃ m, m < (x :: post).length ∧ ∃ pre' post', r = pre' ++ post' ∧ r.takeWhile numC = pre' ++ post'.takeWhile numC ∧ m = post'.length ∧ i + (1 + pre.length + 1) = i + (1 + pre'.length) := by
            refine ⟨post.length, by simp, pre ++ [x], post, by rw [hr]; simp, ?_, rfl, by simp; omega⟩
            rw [htw, List.takeWhile_cons, if_pos hxn]; simp
          obtain ⟨m', g1, pre', post', g2, g3, g4, g5⟩ := go
          have hi' : ((i + (1 + pre.length) + 1 : Nat) : Int) = ((i + (1 + pre'.length) : Nat) : Int) := by omega
          rcases hq2 with q1 | ⟨q1, q2⟩ | ⟨q1, q2⟩
          · rw [q1] at gy
            simp -implicitDefEqProofs (disch := omega) only [↓ZD,ZP,cnd_t,cnd_f,↓reduceIte,Env.put,stepO,lenV,binV,binInt,unV,loadV,sliceV,boundOf,convV,slstrV,if_pos,if_neg,Int.reduceToNat,Nat.reducePow,V.cells,V.isCell,V.boxable,Nat.reduceEqDiff,reduceCtorEq,reduceIte,ite_self,enterEnv,e0,e1,e4,e7,e8,e9,hat]
            refine calP_ro rfl gy rfl ?_
            simp -implicitDefEqProofs (disch := omega) only [↓ZD,ZP,cnd_t,cnd_f,↓reduceIte,Env.put,stepO,lenV,binV,binInt,unV,loadV,sliceV,boundOf,convV,slstrV,if_pos,if_neg,Int.reduceToNat,Nat.reducePow,V.cells,V.isCell,V.boxable,Nat.reduceEqDiff,reduceCtorEq,reduceIte,ite_self,enterEnv,e0,e1,e4,e7,e8,e9,hat,hi']
            exact ⟨m', g1, pre', post', g2, g3, g4, rfl⟩
          · rw [q1] at gy
            simp -implicitDefEqProofs (disch := omega) only [↓ZD,ZP,cnd_t,cnd_f,↓reduceIte,Env.put,stepO,lenV,binV,binInt,unV,loadV,sliceV,boundOf,convV,slstrV,if_pos,if_neg,Int.reduceToNat,Nat.reducePow,V.cells,V.isCell,V.boxable,Nat.reduceEqDiff,reduceCtorEq,reduceIte,ite_self,enterEnv,e0,e1,e4,e7,e8,e9,hat]
            refine calP_ro rfl gy rfl ?_
            simp -implicitDefEqProofs (disch := omega) only [↓ZD,ZP,cnd_t,cnd_f,↓reduceIte,Env.put,stepO,lenV,binV,binInt,unV,loadV,sliceV,boundOf,convV,slstrV,if_pos,if_neg,Int.reduceToNat,Nat.reducePow,V.cells,V.isCell,V.boxable,Nat.reduceEqDiff,reduceCtorEq,reduceIte,ite_self,enterEnv,e0,e1,e4,e7,e8,e9,hat,hi',q2]
            exact ⟨m', g1, pre', post', g2, g3, g4, rfl⟩
          · rw [q1] at gy
            simp -implicitDefEqProofs (disch := omega) only [↓ZD,ZP,cnd_t,cnd_f,↓reduceIte,Env.put,stepO,lenV,binV,binInt,unV,loadV,sliceV,boundOf,convV,slstrV,if_pos,if_neg,Int.reduceToNat,Nat.reducePow,V.cells,V.isCell,V.boxable,Nat.reduceEqDiff,reduceCtorEq,reduceIte,ite_self,enterEnv,e0,e1,e4,e7,e8,e9,hat]
            refine calP_ro rfl gy rfl ?_
            simp -implicitDefEqProofs (disch := omega) only [↓ZD,ZP,cnd_t,cnd_f,↓reduceIte,Env.put,stepO,lenV,binV,binInt,unV,loadV,sliceV,boundOf,convV,slstrV,if_pos,if_neg,Int.reduceToNat,Nat.reducePow,V.cells,V.isCell,V.boxable,Nat.reduceEqDiff,reduceCtorEq,reduceIte,ite_self,enterEnv,e0,e1,e4,e7,e8,e9,hat,hi',q2]
            exact ⟨m', g1, pre', post', g2, g3, g4, rfl⟩
        · have hxf : numC x = false := by simpa using hxn
          have hDx : isD x = false := by simp [numC] at hxf; exact hxf.1.1
          have hx46 : x ≠ 46 := by simp [numC] at hxf; exact hxf.1.2
          have hx114 : x ≠ 114 := by simp [numC] at hxf; exact hxf.2
          rw [hDx] at gy
          have hw : r.takeWhile numC = pre := by rw [htw, List.takeWhile_cons, hxf]; simp
          have htk : (rs.drop i).take (1 + pre.length) = c :: pre := by rw [hd, Nat.add_comm 1, List.take_succ_cons, ← hw, take_while_len]
          have htl : (rl (c :: pre)).length = 1 + pre.length := by rw [rl_len, List.length_cons, Nat.add_comm]
          have htk2 : (c :: r).take (1 + pre.length) = c :: pre := by rw [← hd]; exact htk
          have hin : ∀ z ∈ pre, numC z = true := fun z hz => twj (by rw [hw]; exact hz : z ∈ r.takeWhile numC)
          obtain ⟨below, U, R, n1, n2, n3, n4, n5⟩ := ratP_ref (c := c) (w := pre) hnum hin
          have hel := encs_len (c :: pre)
          rw [List.length_cons] at hel
          have gp := good439 below U R (encs (c :: pre)) n1 n2 n3 n4 (by omega)
          rw [← n5] at gp
          obtain ⟨b, nx, dx, mx, hr2⟩ := ratP_agg (encs (c :: pre))
          rw [hr2] at gp
          simp -implicitDefEqProofs (disch := omega) only [↓ZD,ZP,cnd_t,cnd_f,↓reduceIte,Env.put,stepO,lenV,binV,binInt,unV,loadV,sliceV,boundOf,convV,slstrV,if_pos,if_neg,Int.reduceToNat,Nat.reducePow,V.cells,V.isCell,V.boxable,Nat.reduceEqDiff,reduceCtorEq,reduceIte,ite_self,enterEnv,e0,e1,e4,e7,e8,e9,hat]
          refine calP_ro rfl gy rfl ?_
          simp -implicitDefEqProofs (disch := omega) only [↓ZD,ZP,cnd_t,cnd_f,↓reduceIte,Env.put,stepO,lenV,binV,binInt,unV,loadV,sliceV,boundOf,convV,slstrV,if_pos,if_neg,Int.reduceToNat,Nat.reducePow,V.cells,V.isCell,V.boxable,Nat.reduceEqDiff,reduceCtorEq,reduceIte,ite_self,enterEnv,e0,e1,e4,e7,e8,e9,hat,fillL,evParts,splice,List.take_zero,List.take_succ_cons,List.drop_succ_cons,List.drop_zero,List.drop_nil,tokH,loadV,rl_len,slice_rl,convV,readSl,runesOf_rl,htk,htl,hsub]
          refine calP_ro rfl gp (by simp [pairV, V.ro, roL, rv_ro]) ?_
          by_cases hmx : mx = 0
          · subst hmx
            have htok : tokenS (c :: r) = .ok 1 (1 + pre.length) (.sl false [] 0) (.sl false (itemOf (ratP (encs (c :: pre))).1) 1) := by
              rw [tokenS, if_pos hnum, hw, numTok, hr2, if_pos rfl, List.length_cons, Nat.add_comm]
            have harr : arrS (c :: r) = (nilV, .sl true (itemR b nx dx) 1) := by rw [arrS, if_pos hnum, hw, hr2]; rfl
            rw [nextR_ok htok, harr, htk2]
            obtain ⟨b', x', y', hv, hn⟩ := ratP_ok hr2
            have hx1 : (lim nx).length ≤ 1000000 ∧ (lim dx).length ≤ 1000000 := by
              simp only [rv,V.agg.injEq,List.cons.injEq,nf,nsl,V.sl.injEq] at hv
              have h1 := hn.1
              have h2 := hn.2.1
              omega
            have gn := good440 b nx dx hx1.1 hx1.2
            simp -implicitDefEqProofs (disch := omega) only [↓ZD,ZP,cnd_t,cnd_f,↓reduceIte,Env.put,stepO,lenV,binV,binInt,unV,loadV,sliceV,boundOf,convV,slstrV,if_pos,if_neg,Int.reduceToNat,Nat.reducePow,V.cells,V.isCell,V.boxable,Nat.reduceEqDiff,reduceCtorEq,reduceIte,ite_self,enterEnv,e0,e1,e4,e7,e8,e9,hat,pairV,rv,fillL,evParts,splice,List.take_zero,List.take_succ_cons,List.drop_succ_cons,List.drop_zero,List.drop_nil,tokH,loadV,nf,nsl]
            refine calP_ro (by simp [roL, V.ro, nl_ro]) gn (by simp [V.ro, roL, itemR, nf_ro]) ?_
            simp -implicitDefEqProofs (disch := omega) only [↓ZD,ZP,cnd_t,cnd_f,↓reduceIte,Env.put,stepO,lenV,binV,binInt,unV,loadV,sliceV,boundOf,convV,slstrV,if_pos,if_neg,Int.reduceToNat,Nat.reducePow,V.cells,V.isCell,V.boxable,Nat.reduceEqDiff,reduceCtorEq,reduceIte,ite_self,enterEnv,e0,e1,e4,e7,e8,e9,hat,itemR,nf,nsl,fillL,evParts,splice,List.take_zero,List.take_succ_cons,List.drop_succ_cons,List.drop_zero,List.drop_nil,tokH,rl_len,slice_rl,convV,readSl,runesOf_rl,htk,htl,hsub,loadV,↓done_lmm]
            exact gives_ro (by simp [V.ro, roL, nl_ro, nilV])
          · have htok : tokenS (c :: r) = .err mx := by rw [tokenS, if_pos hnum, hw, numTok, hr2, if_neg hmx]
            rw [nextR_err htok]
            simp -implicitDefEqProofs (disch := omega) only [↓ZD,ZP,cnd_t,cnd_f,↓reduceIte,Env.put,stepO,lenV,binV,binInt,unV,loadV,sliceV,boundOf,convV,slstrV,if_pos,if_neg,Int.reduceToNat,Nat.reducePow,V.cells,V.isCell,V.boxable,Nat.reduceEqDiff,reduceCtorEq,reduceIte,ite_self,enterEnv,e0,e1,e4,e7,e8,e9,hat,pairV,rv,fillL,evParts,splice,List.take_zero,List.take_succ_cons,List.drop_succ_cons,List.drop_zero,List.drop_nil,tokH,loadV,nf,nsl,↓done_lmm]
            exact gives_ro rfl
    · simp -implicitDefEqProofs (disch := omega) only [↓ZD,ZP,cnd_t,cnd_f,↓reduceIte,Env.put,stepO,lenV,binV,binInt,unV,loadV,sliceV,boundOf,convV,slstrV,if_pos,if_neg,Int.reduceToNat,Nat.reducePow,V.cells,V.isCell,V.boxable,Nat.reduceEqDiff,reduceCtorEq,reduceIte,ite_self,enterEnv,e0,e1,rsl,rl_len,hat0,fillL,evParts,splice,List.take_zero,List.take_succ_cons,List.drop_succ_cons,List.drop_zero,List.drop_nil,hDf]
      refine go_loop (fun m e H => ∃ pre post, r = pre ++ post ∧ r.takeWhile numC = pre ++ post.takeWhile numC ∧ m = post.length ∧ H = tokH i ∧ e 0 = .sl false (rl rs) rs.length ∧ e 1 = .int .i64 (i : Nat) ∧ e 4 = .cell 0 0 0 ∧ e 7 = .int .i32 (c : Nat) ∧ e 8 = .int .i64 ((i + (1 + pre.length) : Nat) : Int) ∧ e 9 = .cell 1 0 0) r.length
        ⟨[], r, rfl, rfl, rfl, rfl, ?_, ?_, ?_, ?_, ?_, ?_⟩ ?_
      · simp [Env.set, e0, rsl]
      · simp [Env.set, e1]
      · simp [Env.set]
      · simp [Env.set]
      · simp [Env.set]
      · simp [Env.set]
      clear e0 e1
      rintro m e H ⟨pre, post, hr, htw, rfl, rfl, e0, e1, e4, e7, e8, e9⟩
      have hpl : r.length = pre.length + post.length := by rw [hr]; simp
      cases post with
      | nil =>
        simp only [List.length_nil,Nat.add_zero] at hpl
        have hw : r.takeWhile numC = pre := by rw [htw]; simp
        have htk : (rs.drop i).take (1 + pre.length) = c :: pre := by rw [hd, Nat.add_comm 1, List.take_succ_cons, ← hw, take_while_len]
        have htl : (rl (c :: pre)).length = 1 + pre.length := by rw [rl_len, List.length_cons, Nat.add_comm]
        have htk2 : (c :: r).take (1 + pre.length) = c :: pre := by rw [← hd]; exact htk
        have hin : ∀ z ∈ pre, numC z = true := fun z hz => twj (by rw [hw]; exact hz : z ∈ r.takeWhile numC)
        obtain ⟨below, U, R, n1, n2, n3, n4, n5⟩ := ratP_ref (c := c) (w := pre) hnum hin
        have hel := encs_len (c :: pre)
        rw [List.length_cons] at hel
        have gp := good439 below U R (encs (c :: pre)) n1 n2 n3 n4 (by omega)
        rw [← n5] at gp
        obtain ⟨b, nx, dx, mx, hr2⟩ := ratP_agg (encs (c :: pre))
        rw [hr2] at gp
        simp -implicitDefEqProofs (disch := omega) only [↓ZD,ZP,cnd_t,cnd_f,↓reduceIte,Env.put,stepO,lenV,binV,binInt,unV,loadV,sliceV,boundOf,convV,slstrV,if_pos,if_neg,Int.reduceToNat,Nat.reducePow,V.cells,V.isCell,V.boxable,Nat.reduceEqDiff,reduceCtorEq,reduceIte,ite_self,enterEnv,e0,e1,e4,e7,e8,e9,fillL,evParts,splice,List.take_zero,List.take_succ_cons,List.drop_succ_cons,List.drop_zero,List.drop_nil,tokH,loadV,rl_len,slice_rl,convV,readSl,runesOf_rl,htk,htl,hsub]
        refine calP_ro rfl gp (by simp [pairV, V.ro, roL, rv_ro]) ?_
        by_cases hmx : mx = 0
        · subst hmx
          have htok : tokenS (c :: r) = .ok 1 (1 + pre.length) (.sl false [] 0) (.sl false (itemOf (ratP (encs (c :: pre))).1) 1) := by
            rw [tokenS, if_pos hnum, hw, numTok, hr2, if_pos rfl, List.length_cons, Nat.add_comm]
          have harr : arrS (c :: r) = (nilV, .sl true (itemR b nx dx) 1) := by rw [arrS, if_pos hnum, hw, hr2]; rfl
          rw [nextR_ok htok, harr, htk2]
          obtain ⟨b', x', y', hv, hn⟩ := ratP_ok hr2
          have hx1 : (lim nx).length ≤ 1000000 ∧ (lim dx).length ≤ 1000000 := by
            simp only [rv,V.agg.injEq,List.cons.injEq,nf,nsl,V.sl.injEq] at hv
            have h1 := hn.1
            have h2 := hn.2.1
            omega
          have gn := good440 b nx dx hx1.1 hx1.2
          simp -implicitDefEqProofs (disch := omega) only [↓ZD,ZP,cnd_t,cnd_f,↓reduceIte,Env.put,stepO,lenV,binV,binInt,unV,loadV,sliceV,boundOf,convV,slstrV,if_pos,if_neg,Int.reduceToNat,Nat.reducePow,V.cells,V.isCell,V.boxable,Nat.reduceEqDiff,reduceCtorEq,reduceIte,ite_self,enterEnv,e0,e1,e4,e7,e8,e9,pairV,rv,fillL,evParts,splice,List.take_zero,List.take_succ_cons,List.drop_succ_cons,List.drop_zero,List.drop_nil,tokH,loadV,nf,nsl]
          refine calP_ro (by simp [roL, V.ro, nl_ro]) gn (by simp [V.ro, roL, itemR, nf_ro]) ?_
          simp -implicitDefEqProofs (disch := omega) only [↓ZD,ZP,cnd_t,cnd_f,↓reduceIte,Env.put,stepO,lenV,binV,binInt,unV,loadV,sliceV,boundOf,convV,slstrV,if_pos,if_neg,Int.reduceToNat,Nat.reducePow,V.cells,V.isCell,V.boxable,Nat.reduceEqDiff,reduceCtorEq,reduceIte,ite_self,enterEnv,e0,e1,e4,e7,e8,e9,itemR,nf,nsl,fillL,evParts,splice,List.take_zero,List.take_succ_cons,List.drop_succ_cons,List.drop_zero,List.drop_nil,tokH,rl_len,slice_rl,convV,readSl,runesOf_rl,htk,htl,hsub,loadV,↓done_lmm]
          exact gives_ro (by simp [V.ro, roL, nl_ro, nilV])
        · have htok : tokenS (c :: r) = .err mx := by rw [tokenS, if_pos hnum, hw, numTok, hr2, if_neg hmx]
          rw [nextR_err htok]
          simp -implicitDefEqProofs (disch := omega) only [↓ZD,ZP,cnd_t,cnd_f,↓reduceIte,Env.put,stepO,lenV,binV,binInt,unV,loadV,sliceV,boundOf,convV,slstrV,if_pos,if_neg,Int.reduceToNat,Nat.reducePow,V.cells,V.isCell,V.boxable,Nat.reduceEqDiff,reduceCtorEq,reduceIte,ite_self,enterEnv,e0,e1,e4,e7,e8,e9,pairV,rv,fillL,evParts,splice,List.take_zero,List.take_succ_cons,List.drop_succ_cons,List.drop_zero,List.drop_nil,tokH,loadV,nf,nsl,↓done_lmm]
          exact gives_ro rfl
      | cons x post =>
        have hat := at_drop hd hr (n := i + (1 + pre.length)) (by omega)
        have hlt : i + (1 + pre.length) < rs.length := by simp only [List.length_cons] at hpl; omega
        have gy := good438 x
        by_cases hxn : numC x = true
        · have hq2 : isD x = true ∨ (isD x = false ∧ x = 46) ∨ (isD x = false ∧ x = 114) := by
            cases h : isD x with
            | true => exact .inl rfl
            | false => simp [numC, h] at hxn; rcases hxn with h | h; exact .inr (.inl ⟨rfl, h⟩); exact .inr (.inr ⟨rfl, h⟩)
          have go : ∃ m, m < (x :: post).length ∧ ∃ pre' post', r = pre' ++ post' ∧ r.takeWhile numC = pre' ++ post'.takeWhile numC ∧ m = post'.length ∧ i + (1 + pre.length + 1) = i + (1 + pre'.length) := by
            refine ⟨post.length, by simp, pre ++ [x], post, by rw [hr]; simp, ?_, rfl, by simp; omega⟩
            rw [htw, List.takeWhile_cons, if_pos hxn]; simp
          obtain ⟨m', g1, pre', post', g2, g3, g4, g5⟩ := go
          have hi' : ((i + (1 + pre.length) + 1 : Nat) : Int) = ((i + (1 + pre'.length) : Nat) : Int) := by omega
          rcases hq2 with q1 | ⟨q1, q2⟩ | ⟨q1, q2⟩
          · rw [q1] at gy
            simp -implicitDefEqProofs (disch := omega) only [↓ZD,ZP,cnd_t,cnd_f,↓reduceIte,Env.put,stepO,lenV,binV,binInt,unV,loadV,sliceV,boundOf,convV,slstrV,if_pos,if_neg,Int.reduceToNat,Nat.reducePow,V.cells,V.isCell,V.boxable,Nat.reduceEqDiff,reduceCtorEq,reduceIte,ite_self,enterEnv,e0,e1,e4,e7,e8,e9,hat]
            refine calP_ro rfl gy rfl ?_
            simp -implicitDefEqProofs (disch := omega) only [↓ZD,ZP,cnd_t,cnd_f,↓reduceIte,Env.put,stepO,lenV,binV,binInt,unV,loadV,sliceV,boundOf,convV,slstrV,if_pos,if_neg,Int.reduceToNat,Nat.reducePow,V.cells,V.isCell,V.boxable,Nat.reduceEqDiff,reduceCtorEq,reduceIte,ite_self,enterEnv,e0,e1,e4,e7,e8,e9,hat,hi']
            exact ⟨m', g1, pre', post', g2, g3, g4, rfl⟩
          · rw [q1] at gy
            simp -implicitDefEqProofs (disch := omega) only [↓ZD,ZP,cnd_t,cnd_f,↓reduceIte,Env.put,stepO,lenV,binV,binInt,unV,loadV,sliceV,boundOf,convV,slstrV,if_pos,if_neg,Int.reduceToNat,Nat.reducePow,V.cells,V.isCell,V.boxable,Nat.reduceEqDiff,reduceCtorEq,reduceIte,ite_self,enterEnv,e0,e1,e4,e7,e8,e9,hat]
            refine calP_ro rfl gy rfl ?_
            simp -implicitDefEqProofs (disch := omega) only [↓ZD,ZP,cnd_t,cnd_f,↓reduceIte,Env.put,stepO,lenV,binV,binInt,unV,loadV,sliceV,boundOf,convV,slstrV,if_pos,if_neg,Int.reduceToNat,Nat.reducePow,V.cells,V.isCell,V.boxable,Nat.reduceEqDiff,reduceCtorEq,reduceIte,ite_self,enterEnv,e0,e1,e4,e7,e8,e9,hat,hi',q2]
            exact ⟨m', g1, pre', post', g2, g3, g4, rfl⟩
          · rw [q1] at gy
            simp -implicitDefEqProofs (disch := omega) only [↓ZD,ZP,cnd_t,cnd_f,↓reduceIte,Env.put,stepO,lenV,binV,binInt,unV,loadV,sliceV,boundOf,convV,slstrV,if_pos,if_neg,Int.reduceToNat,Nat.reducePow,V.cells,V.isCell,V.boxable,Nat.reduceEqDiff,reduceCtorEq,reduceIte,ite_self,enterEnv,e0,e1,e4,e7,e8,e9,hat]
            refine calP_ro rfl gy rfl ?_
            simp -implicitDefEqProofs (disch := omega) only [↓ZD,ZP,cnd_t,cnd_f,↓reduceIte,Env.put,stepO,lenV,binV,binInt,unV,loadV,sliceV,boundOf,convV,slstrV,if_pos,if_neg,Int.reduceToNat,Nat.reducePow,V.cells,V.isCell,V.boxable,Nat.reduceEqDiff,reduceCtorEq,reduceIte,ite_self,enterEnv,e0,e1,e4,e7,e8,e9,hat,hi',q2]
            exact ⟨m', g1, pre', post', g2, g3, g4, rfl⟩
        · have hxf : numC x = false := by simpa using hxn
          have hDx : isD x = false := by simp [numC] at hxf; exact hxf.1.1
          have hx46 : x ≠ 46 := by simp [numC] at hxf; exact hxf.1.2
          have hx114 : x ≠ 114 := by simp [numC] at hxf; exact hxf.2
          rw [hDx] at gy
          have hw : r.takeWhile numC = pre := by rw [htw, List.takeWhile_cons, hxf]; simp
          have htk : (rs.drop i).take (1 + pre.length) = c :: pre := by rw [hd, Nat.add_comm 1, List.take_succ_cons, ← hw, take_while_len]
          have htl : (rl (c :: pre)).length = 1 + pre.length := by rw [rl_len, List.length_cons, Nat.add_comm]
          have htk2 : (c :: r).take (1 + pre.length) = c :: pre := by rw [← hd]; exact htk
          have hin : ∀ z ∈ pre, numC z = true := fun z hz => twj (by rw [hw]; exact hz : z ∈ r.takeWhile numC)
          obtain ⟨below, U, R, n1, n2, n3, n4, n5⟩ := ratP_ref (c := c) (w := pre) hnum hin
          have hel := encs_len (c :: pre)
          rw [List.length_cons] at hel
          have gp := good439 below U R (encs (c :: pre)) n1 n2 n3 n4 (by omega)
          rw [← n5] at gp
          obtain ⟨b, nx, dx, mx, hr2⟩ := ratP_agg (encs (c :: pre))
          rw [hr2] at gp
          simp -implicitDefEqProofs (disch := omega) only [↓ZD,ZP,cnd_t,cnd_f,↓reduceIte,Env.put,stepO,lenV,binV,binInt,unV,loadV,sliceV,boundOf,convV,slstrV,if_pos,if_neg,Int.reduceToNat,Nat.reducePow,V.cells,V.isCell,V.boxable,Nat.reduceEqDiff,reduceCtorEq,reduceIte,ite_self,enterEnv,e0,e1,e4,e7,e8,e9,hat]
          refine calP_ro rfl gy rfl ?_
          simp -implicitDefEqProofs (disch := omega) only [↓ZD,ZP,cnd_t,cnd_f,↓reduceIte,Env.put,stepO,lenV,binV,binInt,unV,loadV,sliceV,boundOf,convV,slstrV,if_pos,if_neg,Int.reduceToNat,Nat.reducePow,V.cells,V.isCell,V.boxable,Nat.reduceEqDiff,reduceCtorEq,reduceIte,ite_self,enterEnv,e0,e1,e4,e7,e8,e9,hat,fillL,evParts,splice,List.take_zero,List.take_succ_cons,List.drop_succ_cons,List.drop_zero,List.drop_nil,tokH,loadV,rl_len,slice_rl,convV,readSl,runesOf_rl,htk,htl,hsub]
          refine calP_ro rfl gp (by simp [pairV, V.ro, roL, rv_ro]) ?_
          by_cases hmx : mx = 0
          · subst hmx
            have htok : tokenS (c :: r) = .ok 1 (1 + pre.length) (.sl false [] 0) (.sl false (itemOf (ratP (encs (c :: pre))).1) 1) := by
              rw [tokenS, if_pos hnum, hw, numTok, hr2, if_pos rfl, List.length_cons, Nat.add_comm]
            have harr : arrS (c :: r) = (nilV, .sl true (itemR b nx dx) 1) := by rw [arrS, if_pos hnum, hw, hr2]; rfl
            rw [nextR_ok htok, harr, htk2]
            obtain ⟨b', x', y', hv, hn⟩ := ratP_ok hr2
            have hx1 : (lim nx).length ≤ 1000000 ∧ (lim dx).length ≤ 1000000 := by
              simp only [rv,V.agg.injEq,List.cons.injEq,nf,nsl,V.sl.injEq] at hv
              have h1 := hn.1
              have h2 := hn.2.1
              omega
            have gn := good440 b nx dx hx1.1 hx1.2
            simp -implicitDefEqProofs (disch := omega) only [↓ZD,ZP,cnd_t,cnd_f,↓reduceIte,Env.put,stepO,lenV,binV,binInt,unV,loadV,sliceV,boundOf,convV,slstrV,if_pos,if_neg,Int.reduceToNat,Nat.reducePow,V.cells,V.isCell,V.boxable,Nat.reduceEqDiff,reduceCtorEq,reduceIte,ite_self,enterEnv,e0,e1,e4,e7,e8,e9,hat,pairV,rv,fillL,evParts,splice,List.take_zero,List.take_succ_cons,List.drop_succ_cons,List.drop_zero,List.drop_nil,tokH,loadV,nf,nsl]
            refine calP_ro (by simp [roL, V.ro, nl_ro]) gn (by simp [V.ro, roL, itemR, nf_ro]) ?_
            simp -implicitDefEqProofs (disch := omega) only [↓ZD,ZP,cnd_t,cnd_f,↓reduceIte,Env.put,stepO,lenV,binV,binInt,unV,loadV,sliceV,boundOf,convV,slstrV,if_pos,if_neg,Int.reduceToNat,Nat.reducePow,V.cells,V.isCell,V.boxable,Nat.reduceEqDiff,reduceCtorEq,reduceIte,ite_self,enterEnv,e0,e1,e4,e7,e8,e9,hat,itemR,nf,nsl,fillL,evParts,splice,List.take_zero,List.take_succ_cons,List.drop_succ_cons,List.drop_zero,List.drop_nil,tokH,rl_len,slice_rl,convV,readSl,runesOf_rl,htk,htl,hsub,loadV,↓done_lmm]
            exact gives_ro (by simp [V.ro, roL, nl_ro, nilV])
          · have htok : tokenS (c :: r) = .err mx := by rw [tokenS, if_pos hnum, hw, numTok, hr2, if_neg hmx]
            rw [nextR_err htok]
            simp -implicitDefEqProofs (disch := omega) only [↓ZD,ZP,cnd_t,cnd_f,↓reduceIte,Env.put,stepO,lenV,binV,binInt,unV,loadV,sliceV,boundOf,convV,slstrV,if_pos,if_neg,Int.reduceToNat,Nat.reducePow,V.cells,V.isCell,V.boxable,Nat.reduceEqDiff,reduceCtorEq,reduceIte,ite_self,enterEnv,e0,e1,e4,e7,e8,e9,hat,pairV,rv,fillL,evParts,splice,List.take_zero,List.take_succ_cons,List.drop_succ_cons,List.drop_zero,List.drop_nil,tokH,loadV,nf,nsl,↓done_lmm]
            exact gives_ro rfl
  have hD : isD c = false := by
    cases h : isD c with
    | false => rfl
    | true => exact absurd (.inl h) hnum
  have h175 : c ≠ 175 := fun h => hnum (.inr h)
  by_cases h39 : c = 39
  · subst h39
    simp -implicitDefEqProofs (disch := omega) only [↓ZD,ZP,cnd_t,cnd_f,↓reduceIte,Env.put,stepO,lenV,binV,binInt,unV,loadV,sliceV,boundOf,convV,slstrV,if_pos,if_neg,Int.reduceToNat,Nat.reducePow,V.cells,V.isCell,V.boxable,Nat.reduceEqDiff,reduceCtorEq,reduceIte,ite_self,enterEnv,e0,e1,rsl,rl_len,hat0,fillL,evParts,splice,List.take_zero,List.take_succ_cons,List.drop_succ_cons,List.drop_zero,List.drop_nil,hD]
    refine go_loop (fun m e H => ∃ pre post out v, r = pre ++ post ∧ textS r = (textS post).map (fun p => (out ++ p.1, pre.length + p.2)) ∧ m = post.length ∧ out.length ≤ pre.length ∧ OutAt H v out 2 ∧ H[0]? = some (.cells 0 0 true [.int .i64 0, .str [], .int .i64 0, .sl true [] 0, .sl true [] 0]) ∧ H[1]? = some (.cells 0 0 true [.int .i64 0, .str [], .int .i64 (i : Nat), .sl true [] 0, .sl true [] 0]) ∧ (∀ x ∈ out, x ∈ r) ∧
        e 0 = .sl false (rl rs) rs.length ∧ e 1 = .int .i64 (i : Nat) ∧ e 4 = .cell 0 0 0 ∧ e 8 = .int .i64 ((i + (1 + pre.length) : Nat) : Int) ∧ e 9 = .cell 1 0 0 ∧ e 12 = v) r.length
      ⟨[], r, [], _, rfl, by simp, rfl, Nat.le_refl _, .inl ⟨rfl, rfl, rfl⟩, rfl, rfl, (fun x hx => (List.not_mem_nil hx).elim), ?_, ?_, ?_, ?_, ?_, ?_⟩ ?_
    · simp [Env.set, e0, rsl]
    · simp [Env.set, e1]
    · simp [Env.set]
    · simp [Env.set]
    · simp [Env.set]
    · simp [Env.set]
    clear e0 e1
    rintro m e H ⟨pre, post, out, v, hr, hte, rfl, hol, hout, h0, h1, hin, e0, e1, e4, e8, e9, e12⟩
    have hpl : r.length = pre.length + post.length := by rw [hr]; simp
    have hHl := hout.len
    have hok : ∀ x ∈ out, charOK x := fun x hx => hch x (List.mem_of_mem_drop (by rw [hd]; exact List.mem_cons_of_mem _ (hin x hx) : x ∈ rs.drop i))
    have brk : ∀ (post1 : List Nat), post = 39 :: post1 → (∀ d r', post1 = d :: r' → d ≠ 39) → textS r = some (out, pre.length + 1) ∧ (rs.drop i).take (1 + (pre.length + 1)) = 39 :: (pre ++ [39]) ∧ i + (1 + pre.length) + 1 = i + (1 + (pre.length + 1)) ∧ (rl (39 :: (pre ++ [39]))).length = 1 + (pre.length + 1) := by
      intro post1 h39 hn
      refine ⟨by rw [hte, h39, textS_end rfl hn]; simp, ?_, by omega, by rw [rl_len]; simp; omega⟩
      rw [hd, hr, h39, Nat.add_comm 1, List.take_succ_cons]
      congr 1
      rw [show pre ++ 39 :: post1 = (pre ++ [39]) ++ post1 by simp]
      exact List.take_left' (by simp)
    cases post with
    | nil =>
      have htok : tokenS (39 :: r) = .err 26 := by
        rw [tokenS, if_neg hnum, if_pos rfl, textTok, hte]; rfl
      rw [nextR_err htok]
      simp only [List.length_nil,Nat.add_zero] at hpl
      simp -implicitDefEqProofs (disch := (first | omega | (simp only [List.length_append,List.length_set,List.length_cons,List.length_nil]; try omega; done))) only [↓ZD,ZP,ZL,cnd_t,cnd_f,↓reduceIte,Env.put,stepO,lenV,binV,binInt,unV,loadV,sliceV,boundOf,convV,slstrV,if_pos,if_neg,Int.reduceToNat,Nat.reducePow,V.cells,V.isCell,V.boxable,Nat.reduceEqDiff,reduceCtorEq,reduceIte,ite_self,enterEnv,e0,e1,e4,e8,e9,e12,h0,h1,fillL,evParts,splice,List.take_zero,List.take_succ_cons,List.drop_succ_cons,List.drop_zero,List.drop_nil,loadV,↓done_lmm]
      exact gives_ro rfl
    | cons x post =>
      have hlt : i + (1 + pre.length) < rs.length := by simp only [List.length_cons] at hpl; omega
      have hat := at_drop hd hr (n := i + (1 + pre.length)) (by omega)
      by_cases hx : x = 39
      · subst hx
        by_cases h2 : ∃ post2, post = 39 :: post2
        · obtain ⟨post2, rfl⟩ := h2
          have hat2 : (rl rs)[i + (1 + pre.length) + 1]? = some (.int .i32 ((39 : Nat) : Int)) := at_drop hd (pre := pre ++ [39]) (post := post2) (x := 39) (by rw [hr]; simp) (by simp; omega)
          have hlt2 : i + (1 + pre.length) + 1 < rs.length := by simp only [List.length_cons] at hpl; omega
          obtain ⟨v', H', happ, hout', hk⟩ := append_out hout 39 true (by omega)
          have k0 := (hk 0 (by decide)).trans h0
          have k1 := (hk 1 (by decide)).trans h1
          have fin : ∃ m, m < (39 :: 39 :: post2).length ∧ ∃ pre' post' out' v'', r = pre' ++ post' ∧ textS r = (textS post').map (fun p => (out' ++ p.1, pre'.length + p.2)) ∧ m = post'.length ∧ out'.length ≤ pre'.length ∧ OutAt H' v'' out' 2 ∧ (∀ x ∈ out', x ∈ r) ∧ i + (1 + pre.length) + 1 + 1 = i + (1 + pre'.length) ∧ v'' = v' := by
            refine ⟨post2.length, by simp; omega, pre ++ [39, 39], post2, out ++ [39], v', by rw [hr]; simp, ?_, rfl, by simp; omega, hout', ?_, by simp; omega, rfl⟩
            · rw [hte, textS_two]
              cases textS post2 with
              | none => rfl
              | some p => simp; omega
            · intro z hz
              rcases List.mem_append.1 hz with hz | hz
              · exact hin z hz
              · rw [List.mem_singleton.1 hz, hr]; simp
          obtain ⟨m', f1, pre', post', out', v'', f2, f3, f4, f5, f6, f7, f8, rfl⟩ := fin
          have hi' : ((i + (1 + pre.length) + 1 + 1 : Nat) : Int) = ((i + (1 + pre'.length) : Nat) : Int) := by rw [f8]
          simp -implicitDefEqProofs (disch := (first | omega | (simp only [List.length_append,List.length_set,List.length_cons,List.length_nil]; try omega; done))) only [↓ZD,ZP,ZL,cnd_t,cnd_f,↓reduceIte,Env.put,stepO,lenV,binV,binInt,unV,loadV,sliceV,boundOf,convV,slstrV,if_pos,if_neg,Int.reduceToNat,Nat.reducePow,V.cells,V.isCell,V.boxable,Nat.reduceEqDiff,reduceCtorEq,reduceIte,ite_self,enterEnv,e0,e1,e4,e8,e9,e12,hat,hat2,fillL,evParts,splice,List.take_zero,List.take_succ_cons,List.drop_succ_cons,List.drop_zero,List.drop_nil,happ,hi']
          exact ⟨m', f1, pre', post', out', _, f2, f3, f4, f5, f6, k0, k1, f7, rfl, rfl⟩
        · have hn2 : ∀ d r', post = d :: r' → d ≠ 39 := fun d r' h h39 => h2 ⟨r', by rw [h, h39]⟩
          obtain ⟨hts, htk, hend, htl⟩ := brk post rfl hn2
          have hend' : ((i + (1 + pre.length) + 1 : Nat) : Int) = ((i + (1 + (pre.length + 1)) : Nat) : Int) := by rw [hend]
          have hrn := rn_encs out hok
          have gt := good441 (encs out) (by have := encs_len out; omega)
          rw [hrn] at gt
          have htk2 : (39 :: r).take (1 + (pre.length + 1)) = 39 :: (pre ++ [39]) := by rw [← hd]; exact htk
          have harr : arrS (39 :: r) = if out.length = 1 then (nilV, .sl true (itemC' (out.headD 0)) 1) else (.sl false [.int .i64 (out.length : Nat)] 1, .sl false (if out = [] then itemC' 32 else (out.map itemC').flatten) (if out = [] then 1 else out.length)) := by
            rw [arrS, if_neg hnum, if_pos rfl, hts]
          have hnx : nextR i (39 :: r) = .tup [.agg [.int .i64 2, .str (encs (39 :: (pre ++ [39]))), .int .i64 (i : Nat), (arrS (39 :: r)).1, (arrS (39 :: r)).2], .int .i64 ((i + (1 + (pre.length + 1)) : Nat) : Int), .int .i64 0] := by
            rw [nextR, tokenS, if_neg hnum, if_pos rfl, textTok, hts]
            simp only
            by_cases h1 : out.length = 1
            · rw [if_pos h1]; simp only [htk2]; rfl
            · rw [if_neg h1]; simp only [htk2]; rfl
          rw [hnx, harr]
          have hgo : (∃ r', post = [] ∧ r' = post) ∨ ∃ d r', post = d :: r' := by
            cases post with
            | nil => exact .inl ⟨_, rfl, rfl⟩
            | cons d r' => exact .inr ⟨d, r', rfl⟩
          have htR : textR out = .agg [.sl false [.int .i64 (out.length : Nat)] 1, .sl false (if out = [] then itemC' 32 else (out.map itemC').flatten) (if out = [] then 1 else out.length)] := rfl
          rw [htR] at gt
          have hro : (V.agg [.sl false [.int .i64 (out.length : Nat)] 1, .sl false (if out = [] then itemC' 32 else (out.map itemC').flatten) (if out = [] then 1 else out.length)]).ro = true := by
            split
            · rfl
            · simp [V.ro, roL, itemsR_ro]
          generalize (if out = [] then itemC' 32 else (out.map itemC').flatten) = F at *
          generalize (if out = [] then 1 else out.length) = N at *
          rcases hgo with ⟨r', hp0, _⟩ | ⟨d, r', hp1⟩
          · have hnl : ¬ i + (1 + pre.length) + 1 < rs.length := by rw [hp0] at hpl; simp at hpl; omega
            rcases hout with ⟨rfl, rfl, hHb⟩ | ⟨g, rfl, hH2, hHb⟩
            · rw [if_neg (by decide)]
              simp -implicitDefEqProofs (disch := (first | omega | (simp only [List.length_append,List.length_set,List.length_cons,List.length_nil]; try omega; done))) only [↓ZD,ZP,ZL,cnd_t,cnd_f,↓reduceIte,Env.put,stepO,lenV,binV,binInt,unV,loadV,sliceV,boundOf,convV,slstrV,if_pos,if_neg,Int.reduceToNat,Nat.reducePow,V.cells,V.isCell,V.boxable,Nat.reduceEqDiff,reduceCtorEq,reduceIte,ite_self,enterEnv,e0,e1,e4,e8,e9,e12,h0,h1,hat,fillL,evParts,splice,List.take_zero,List.take_succ_cons,List.drop_succ_cons,List.drop_zero,List.drop_nil,rl_len,slice_rl,convV,readSl,runesOf_nil,hend',loadV]
              refine calP_ro rfl gt hro ?_
              simp -implicitDefEqProofs (disch := (first | omega | (simp only [List.length_append,List.length_set,List.length_cons,List.length_nil]; try omega; done))) only [↓ZD,ZP,ZL,cnd_t,cnd_f,↓reduceIte,Env.put,stepO,lenV,binV,binInt,unV,loadV,sliceV,boundOf,convV,slstrV,if_pos,if_neg,Int.reduceToNat,Nat.reducePow,V.cells,V.isCell,V.boxable,Nat.reduceEqDiff,reduceCtorEq,reduceIte,ite_self,enterEnv,e0,e1,e4,e8,e9,e12,h0,h1,hat,fillL,evParts,splice,List.take_zero,List.take_succ_cons,List.drop_succ_cons,List.drop_zero,List.drop_nil,rl_len,slice_rl,convV,readSl,runesOf_rl,hend',htk,htl,hsub,loadV,↓done_lmm]
              exact gives_ro (by simpa [V.ro, roL] using hro)
            · have htake : (rl out).take out.length = rl out := by rw [← rl_len out, List.take_length]
              simp -implicitDefEqProofs (disch := (first | omega | (simp only [List.length_append,List.length_set,List.length_cons,List.length_nil]; try omega; done))) only [↓ZD,ZP,ZL,cnd_t,cnd_f,↓reduceIte,Env.put,stepO,lenV,binV,binInt,unV,loadV,sliceV,boundOf,convV,slstrV,if_pos,if_neg,Int.reduceToNat,Nat.reducePow,V.cells,V.isCell,V.boxable,Nat.reduceEqDiff,reduceCtorEq,reduceIte,ite_self,enterEnv,e0,e1,e4,e8,e9,e12,h0,h1,hH2,hat,fillL,evParts,splice,List.take_zero,List.take_succ_cons,List.drop_succ_cons,List.drop_zero,List.drop_nil,rl_len,slice_rl,convV,readSl,runesOf_rl,htake,hend',loadV]
              refine calP_ro rfl gt hro ?_
              by_cases ho1 : out.length = 1
              · obtain ⟨o, rfl⟩ := List.length_eq_one_iff.1 ho1
                rw [if_pos (show [o].length = 1 from rfl)]
                simp -implicitDefEqProofs (disch := (first | omega | (simp only [List.length_append,List.length_set,List.length_cons,List.length_nil]; try omega; done))) only [↓ZD,ZP,ZL,cnd_t,cnd_f,↓reduceIte,Env.put,stepO,lenV,binV,binInt,unV,loadV,sliceV,boundOf,convV,slstrV,if_pos,if_neg,Int.reduceToNat,Nat.reducePow,V.cells,V.isCell,V.boxable,Nat.reduceEqDiff,reduceCtorEq,reduceIte,ite_self,enterEnv,e0,e1,e4,e8,e9,e12,h0,h1,hH2,hat,fillL,evParts,splice,List.take_zero,List.take_succ_cons,List.drop_succ_cons,List.drop_zero,List.drop_nil,loadV,rl]
                refine calP_ro rfl (good442 o) rfl ?_
                simp -implicitDefEqProofs (disch := (first | omega | (simp only [List.length_append,List.length_set,List.length_cons,List.length_nil]; try omega; done))) only [↓ZD,ZP,ZL,cnd_t,cnd_f,↓reduceIte,Env.put,stepO,lenV,binV,binInt,unV,loadV,sliceV,boundOf,convV,slstrV,if_pos,if_neg,Int.reduceToNat,Nat.reducePow,V.cells,V.isCell,V.boxable,Nat.reduceEqDiff,reduceCtorEq,reduceIte,ite_self,enterEnv,e0,e1,e4,e8,e9,e12,h0,h1,hH2,hat,fillL,evParts,splice,List.take_zero,List.take_succ_cons,List.drop_succ_cons,List.drop_zero,List.drop_nil,rl_len,slice_rl,convV,readSl,runesOf_rl,hend',htk,htl,hsub,loadV,↓done_lmm]
                exact gives_ro rfl
              · rw [if_neg ho1]
                simp -implicitDefEqProofs (disch := (first | omega | (simp only [List.length_append,List.length_set,List.length_cons,List.length_nil]; try omega; done))) only [↓ZD,ZP,ZL,cnd_t,cnd_f,↓reduceIte,Env.put,stepO,lenV,binV,binInt,unV,loadV,sliceV,boundOf,convV,slstrV,if_pos,if_neg,Int.reduceToNat,Nat.reducePow,V.cells,V.isCell,V.boxable,Nat.reduceEqDiff,reduceCtorEq,reduceIte,ite_self,enterEnv,e0,e1,e4,e8,e9,e12,h0,h1,hH2,hat,fillL,evParts,splice,List.take_zero,List.take_succ_cons,List.drop_succ_cons,List.drop_zero,List.drop_nil,rl_len,slice_rl,convV,readSl,runesOf_rl,hend',htk,htl,hsub,loadV,↓done_lmm]
                exact gives_ro (by simpa [V.ro, roL] using hro)
          · have hlt2 : i + (1 + pre.length) + 1 < rs.length := by rw [hp1] at hpl; simp only [List.length_cons] at hpl; omega
            have hd39 := hn2 d r' hp1
            have hat2 : (rl rs)[i + (1 + (pre.length + 1))]? = some (.int .i32 (d : Nat)) := at_drop hd (pre := pre ++ [39]) (post := r') (x := d) (by rw [hr, hp1]; simp) (by simp; omega)
            rcases hout with ⟨rfl, rfl, hHb⟩ | ⟨g, rfl, hH2, hHb⟩
            · rw [if_neg (by decide)]
              simp -implicitDefEqProofs (disch := (first | omega | (simp only [List.length_append,List.length_set,List.length_cons,List.length_nil]; try omega; done))) only [↓ZD,ZP,ZL,cnd_t,cnd_f,↓reduceIte,Env.put,stepO,lenV,binV,binInt,unV,loadV,sliceV,boundOf,convV,slstrV,if_pos,if_neg,Int.reduceToNat,Nat.reducePow,V.cells,V.isCell,V.boxable,Nat.reduceEqDiff,reduceCtorEq,reduceIte,ite_self,enterEnv,e0,e1,e4,e8,e9,e12,h0,h1,hat,hat2,fillL,evParts,splice,List.take_zero,List.take_succ_cons,List.drop_succ_cons,List.drop_zero,List.drop_nil,rl_len,slice_rl,convV,readSl,runesOf_nil,hend',loadV]
              refine calP_ro rfl gt hro ?_
              simp -implicitDefEqProofs (disch := (first | omega | (simp only [List.length_append,List.length_set,List.length_cons,List.length_nil]; try omega; done))) only [↓ZD,ZP,ZL,cnd_t,cnd_f,↓reduceIte,Env.put,stepO,lenV,binV,binInt,unV,loadV,sliceV,boundOf,convV,slstrV,if_pos,if_neg,Int.reduceToNat,Nat.reducePow,V.cells,V.isCell,V.boxable,Nat.reduceEqDiff,reduceCtorEq,reduceIte,ite_self,enterEnv,e0,e1,e4,e8,e9,e12,h0,h1,hat,fillL,evParts,splice,List.take_zero,List.take_succ_cons,List.drop_succ_cons,List.drop_zero,List.drop_nil,rl_len,slice_rl,convV,readSl,runesOf_rl,hend',htk,htl,hsub,loadV,↓done_lmm]
              exact gives_ro (by simpa [V.ro, roL] using hro)
            · have htake : (rl out).take out.length = rl out := by rw [← rl_len out, List.take_length]
              simp -implicitDefEqProofs (disch := (first | omega | (simp only [List.length_append,List.length_set,List.length_cons,List.length_nil]; try omega; done))) only [↓ZD,ZP,ZL,cnd_t,cnd_f,↓reduceIte,Env.put,stepO,lenV,binV,binInt,unV,loadV,sliceV,boundOf,convV,slstrV,if_pos,if_neg,Int.reduceToNat,Nat.reducePow,V.cells,V.isCell,V.boxable,Nat.reduceEqDiff,reduceCtorEq,reduceIte,ite_self,enterEnv,e0,e1,e4,e8,e9,e12,h0,h1,hH2,hat,hat2,fillL,evParts,splice,List.take_zero,List.take_succ_cons,List.drop_succ_cons,List.drop_zero,List.drop_nil,rl_len,slice_rl,convV,readSl,runesOf_rl,htake,hend',loadV]
              refine calP_ro rfl gt hro ?_
              by_cases ho1 : out.length = 1
              · obtain ⟨o, rfl⟩ := List.length_eq_one_iff.1 ho1
                rw [if_pos (show [o].length = 1 from rfl)]
                simp -implicitDefEqProofs (disch := (first | omega | (simp only [List.length_append,List.length_set,List.length_cons,List.length_nil]; try omega; done))) only [↓ZD,ZP,ZL,cnd_t,cnd_f,↓reduceIte,Env.put,stepO,lenV,binV,binInt,unV,loadV,sliceV,boundOf,convV,slstrV,if_pos,if_neg,Int.reduceToNat,Nat.reducePow,V.cells,V.isCell,V.boxable,Nat.reduceEqDiff,reduceCtorEq,reduceIte,ite_self,enterEnv,e0,e1,e4,e8,e9,e12,h0,h1,hH2,hat,fillL,evParts,splice,List.take_zero,List.take_succ_cons,List.drop_succ_cons,List.drop_zero,List.drop_nil,loadV,rl]
                refine calP_ro rfl (good442 o) rfl ?_
                simp -implicitDefEqProofs (disch := (first | omega | (simp only [List.length_append,List.length_set,List.length_cons,List.length_nil]; try omega; done))) only [↓ZD,ZP,ZL,cnd_t,cnd_f,↓reduceIte,Env.put,stepO,lenV,binV,binInt,unV,loadV,sliceV,boundOf,convV,slstrV,if_pos,if_neg,Int.reduceToNat,Nat.reducePow,V.cells,V.isCell,V.boxable,Nat.reduceEqDiff,reduceCtorEq,reduceIte,ite_self,enterEnv,e0,e1,e4,e8,e9,e12,h0,h1,hH2,hat,fillL,evParts,splice,List.take_zero,List.take_succ_cons,List.drop_succ_cons,List.drop_zero,List.drop_nil,rl_len,slice_rl,convV,readSl,runesOf_rl,hend',htk,htl,hsub,loadV,↓done_lmm]
                exact gives_ro rfl
              · rw [if_neg ho1]
                simp -implicitDefEqProofs (disch := (first | omega | (simp only [List.length_append,List.length_set,List.length_cons,List.length_nil]; try omega; done))) only [↓ZD,ZP,ZL,cnd_t,cnd_f,↓reduceIte,Env.put,stepO,lenV,binV,binInt,unV,loadV,sliceV,boundOf,convV,slstrV,if_pos,if_neg,Int.reduceToNat,Nat.reducePow,V.cells,V.isCell,V.boxable,Nat.reduceEqDiff,reduceCtorEq,reduceIte,ite_self,enterEnv,e0,e1,e4,e8,e9,e12,h0,h1,hH2,hat,fillL,evParts,splice,List.take_zero,List.take_succ_cons,List.drop_succ_cons,List.drop_zero,List.drop_nil,rl_len,slice_rl,convV,readSl,runesOf_rl,hend',htk,htl,hsub,loadV,↓done_lmm]
                exact gives_ro (by simpa [V.ro, roL] using hro)
      · obtain ⟨v', H', happ, hout', hk⟩ := append_out hout x true (by omega)
        have k0 := (hk 0 (by decide)).trans h0
        have k1 := (hk 1 (by decide)).trans h1
        have fin : ∃ m, m < (x :: post).length ∧ ∃ pre' post' out' v'', r = pre' ++ post' ∧ textS r = (textS post').map (fun p => (out' ++ p.1, pre'.length + p.2)) ∧ m = post'.length ∧ out'.length ≤ pre'.length ∧ OutAt H' v'' out' 2 ∧ (∀ x ∈ out', x ∈ r) ∧ i + (1 + pre.length) + 1 = i + (1 + pre'.length) ∧ v'' = v' := by
          refine ⟨post.length, by simp, pre ++ [x], post, out ++ [x], v', by rw [hr]; simp, ?_, rfl, by simp; omega, hout', ?_, by simp; omega, rfl⟩
          · rw [hte, textS_other hx]
            cases textS post with
            | none => rfl
            | some p => simp; omega
          · intro z hz
            rcases List.mem_append.1 hz with hz | hz
            · exact hin z hz
            · rw [List.mem_singleton.1 hz, hr]; simp
        obtain ⟨m', f1, pre', post', out', v'', f2, f3, f4, f5, f6, f7, f8, rfl⟩ := fin
        have hi' : ((i + (1 + pre.length) + 1 : Nat) : Int) = ((i + (1 + pre'.length) : Nat) : Int) := by rw [f8]
        simp -implicitDefEqProofs (disch := (first | omega | (simp only [List.length_append,List.length_set,List.length_cons,List.length_nil]; try omega; done))) only [↓ZD,ZP,ZL,cnd_t,cnd_f,↓reduceIte,Env.put,stepO,lenV,binV,binInt,unV,loadV,sliceV,boundOf,convV,slstrV,if_pos,if_neg,Int.reduceToNat,Nat.reducePow,V.cells,V.isCell,V.boxable,Nat.reduceEqDiff,reduceCtorEq,reduceIte,ite_self,enterEnv,e0,e1,e4,e8,e9,e12,hat,fillL,evParts,splice,List.take_zero,List.take_succ_cons,List.drop_succ_cons,List.drop_zero,List.drop_nil,happ,hi']
        exact ⟨m', f1, pre', post', out', _, f2, f3, f4, f5, f6, k0, k1, f7, rfl, rfl⟩
  by_cases hL : isL c = true
  · have hg3 := good443 c
    rw [hL] at hg3
    simp -implicitDefEqProofs (disch := omega) only [↓ZD,ZP,cnd_t,cnd_f,↓reduceIte,Env.put,stepO,lenV,binV,binInt,unV,loadV,sliceV,boundOf,convV,slstrV,if_pos,if_neg,Int.reduceToNat,Nat.reducePow,V.cells,V.isCell,V.boxable,Nat.reduceEqDiff,reduceCtorEq,reduceIte,ite_self,enterEnv,e0,e1,rsl,rl_len,hat0,fillL,evParts,splice,List.take_zero,List.take_succ_cons,List.drop_succ_cons,List.drop_zero,List.drop_nil,hD]
    refine calP_ro rfl hg3 rfl ?_
    simp -implicitDefEqProofs (disch := omega) only [↓ZD,ZP,cnd_t,cnd_f,↓reduceIte,Env.put,stepO,lenV,binV,binInt,unV,loadV,sliceV,boundOf,convV,slstrV,if_pos,if_neg,Int.reduceToNat,Nat.reducePow,V.cells,V.isCell,V.boxable,Nat.reduceEqDiff,reduceCtorEq,reduceIte,ite_self,enterEnv,e0,e1,rsl,rl_len,hat0,fillL,evParts,splice,List.take_zero,List.take_succ_cons,List.drop_succ_cons,List.drop_zero,List.drop_nil]
    · skip
      refine go_loop (fun m e H => ∃ pre post, r = pre ++ post ∧ r.takeWhile nameC = pre ++ post.takeWhile nameC ∧ m = post.length ∧ H = tokH i ∧ e 0 = .sl false (rl rs) rs.length ∧ e 1 = .int .i64 (i : Nat) ∧ e 4 = .cell 0 0 0 ∧ e 7 = .int .i32 (c : Nat) ∧ e 8 = .int .i64 ((i + (1 + pre.length) : Nat) : Int) ∧ e 9 = .cell 1 0 0) r.length
        ⟨[], r, rfl, rfl, rfl, rfl, ?_, ?_, ?_, ?_, ?_, ?_⟩ ?_
      · simp [Env.set, e0, rsl]
      · simp [Env.set, e1]
      · simp [Env.set]
      · simp [Env.set]
      · simp [Env.set]
      · simp [Env.set]
      clear e0 e1
      rintro m e H ⟨pre, post, hr, htw, rfl, rfl, e0, e1, e4, e7, e8, e9⟩
      have hpl : r.length = pre.length + post.length := by rw [hr]; simp
      cases post with
      | nil =>
        simp only [List.length_nil,Nat.add_zero] at hpl
        have hw : r.takeWhile nameC = pre := by rw [htw]; simp
        have htk : (rs.drop i).take (1 + pre.length) = c :: pre := by rw [hd, Nat.add_comm 1, List.take_succ_cons, ← hw, take_while_len]
        have htl : (rl (c :: pre)).length = 1 + pre.length := by rw [rl_len, List.length_cons, Nat.add_comm]
        have hsb : ((i + (1 + pre.length) : Nat) : Int) - ((i : Nat) : Int) = ((1 + pre.length : Nat) : Int) := by omega
        by_cases h32 : 32 < 1 + pre.length
        · have htok : tokenS (c :: r) = .err 27 := by rw [tokenS, if_neg hnum, if_neg h39, if_pos hL, nameTok, hw, if_pos (by rw [List.length_cons]; omega)]
          rw [nextR_err htok]
          simp -implicitDefEqProofs (disch := omega) only [↓ZD,ZP,cnd_t,cnd_f,↓reduceIte,Env.put,stepO,lenV,binV,binInt,unV,loadV,sliceV,boundOf,convV,slstrV,if_pos,if_neg,Int.reduceToNat,Nat.reducePow,V.cells,V.isCell,V.boxable,Nat.reduceEqDiff,reduceCtorEq,reduceIte,ite_self,enterEnv,e0,e1,e4,e7,e8,e9,hsb,fillL,evParts,splice,List.take_zero,List.take_succ_cons,List.drop_succ_cons,List.drop_zero,List.drop_nil,tokH,loadV,↓done_lmm]
          exact gives_ro rfl
        · have htok : tokenS (c :: r) = .ok 3 (1 + pre.length) nilV nilV := by rw [tokenS, if_neg hnum, if_neg h39, if_pos hL, nameTok, hw, if_neg (by rw [List.length_cons]; omega), List.length_cons, Nat.add_comm]
          have harr : arrS (c :: r) = (nilV, nilV) := by rw [arrS, if_neg hnum, if_neg h39]
          rw [nextR_ok htok, harr]
          have htk2 : (c :: r).take (1 + pre.length) = c :: pre := by rw [← hd]; exact htk
          rw [htk2]
          simp -implicitDefEqProofs (disch := omega) only [↓ZD,ZP,cnd_t,cnd_f,↓reduceIte,Env.put,stepO,lenV,binV,binInt,unV,loadV,sliceV,boundOf,convV,slstrV,if_pos,if_neg,Int.reduceToNat,Nat.reducePow,V.cells,V.isCell,V.boxable,Nat.reduceEqDiff,reduceCtorEq,reduceIte,ite_self,enterEnv,e0,e1,e4,e7,e8,e9,hsb,fillL,evParts,splice,List.take_zero,List.take_succ_cons,List.drop_succ_cons,List.drop_zero,List.drop_nil,tokH,rl_len,slice_rl,convV,readSl,runesOf_rl,htk,htl,hsub,loadV,↓done_lmm]
          exact gives_ro rfl
      | cons x post =>
        have hat := at_drop hd hr (n := i + (1 + pre.length)) (by omega)
        have gx := good443 x
        have gy := good438 x
        have hlt : i + (1 + pre.length) < rs.length := by simp only [List.length_cons] at hpl; omega
        by_cases hxn : nameC x = true
        · have go : ∃ m, m < (x :: post).length ∧ ∃ pre' post', r = pre' ++ post' ∧ r.takeWhile nameC = pre' ++ post'.takeWhile nameC ∧ m = post'.length ∧ i + (1 + pre.length + 1) = i + (1 + pre'.length) := by
            refine ⟨post.length, by simp, pre ++ [x], post, by rw [hr]; simp, ?_, rfl, by simp; omega⟩
            rw [htw, List.takeWhile_cons, if_pos hxn]; simp
          obtain ⟨m', g1, pre', post', g2, g3, g4, g5⟩ := go
          have hi' : ((i + (1 + pre.length) + 1 : Nat) : Int) = ((i + (1 + pre'.length) : Nat) : Int) := by omega
          cases hLx : isL x with
          | true =>
            rw [hLx] at gx
            simp -implicitDefEqProofs (disch := omega) only [↓ZD,ZP,cnd_t,cnd_f,↓reduceIte,Env.put,stepO,lenV,binV,binInt,unV,loadV,sliceV,boundOf,convV,slstrV,if_pos,if_neg,Int.reduceToNat,Nat.reducePow,V.cells,V.isCell,V.boxable,Nat.reduceEqDiff,reduceCtorEq,reduceIte,ite_self,enterEnv,e0,e1,e4,e7,e8,e9,hat]
            refine calP_ro rfl gx rfl ?_
            simp -implicitDefEqProofs (disch := omega) only [↓ZD,ZP,cnd_t,cnd_f,↓reduceIte,Env.put,stepO,lenV,binV,binInt,unV,loadV,sliceV,boundOf,convV,slstrV,if_pos,if_neg,Int.reduceToNat,Nat.reducePow,V.cells,V.isCell,V.boxable,Nat.reduceEqDiff,reduceCtorEq,reduceIte,ite_self,enterEnv,e0,e1,e4,e7,e8,e9,hat,hi']
            exact ⟨m', g1, pre', post', g2, g3, g4, rfl⟩
          | false =>
            have hDx : isD x = true := by simpa [nameC, hLx] using hxn
            rw [hLx] at gx
            rw [hDx] at gy
            simp -implicitDefEqProofs (disch := omega) only [↓ZD,ZP,cnd_t,cnd_f,↓reduceIte,Env.put,stepO,lenV,binV,binInt,unV,loadV,sliceV,boundOf,convV,slstrV,if_pos,if_neg,Int.reduceToNat,Nat.reducePow,V.cells,V.isCell,V.boxable,Nat.reduceEqDiff,reduceCtorEq,reduceIte,ite_self,enterEnv,e0,e1,e4,e7,e8,e9,hat]
            refine calP_ro rfl gx rfl ?_
            simp -implicitDefEqProofs (disch := omega) only [↓ZD,ZP,cnd_t,cnd_f,↓reduceIte,Env.put,stepO,lenV,binV,binInt,unV,loadV,sliceV,boundOf,convV,slstrV,if_pos,if_neg,Int.reduceToNat,Nat.reducePow,V.cells,V.isCell,V.boxable,Nat.reduceEqDiff,reduceCtorEq,reduceIte,ite_self,enterEnv,e0,e1,e4,e7,e8,e9,hat]
            refine calP_ro rfl gy rfl ?_
            simp -implicitDefEqProofs (disch := omega) only [↓ZD,ZP,cnd_t,cnd_f,↓reduceIte,Env.put,stepO,lenV,binV,binInt,unV,loadV,sliceV,boundOf,convV,slstrV,if_pos,if_neg,Int.reduceToNat,Nat.reducePow,V.cells,V.isCell,V.boxable,Nat.reduceEqDiff,reduceCtorEq,reduceIte,ite_self,enterEnv,e0,e1,e4,e7,e8,e9,hat,hi']
            exact ⟨m', g1, pre', post', g2, g3, g4, rfl⟩
        · have hxf : nameC x = false := by simpa using hxn
          have hLx : isL x = false := by simp [nameC] at hxf; exact hxf.1
          have hDx : isD x = false := by simp [nameC] at hxf; exact hxf.2
          rw [hLx] at gx
          rw [hDx] at gy
          have hw : r.takeWhile nameC = pre := by rw [htw, List.takeWhile_cons, hxf]; simp
          have htk : (rs.drop i).take (1 + pre.length) = c :: pre := by rw [hd, Nat.add_comm 1, List.take_succ_cons, ← hw, take_while_len]
          have htl : (rl (c :: pre)).length = 1 + pre.length := by rw [rl_len, List.length_cons, Nat.add_comm]
          have hsb : ((i + (1 + pre.length) : Nat) : Int) - ((i : Nat) : Int) = ((1 + pre.length : Nat) : Int) := by omega
          by_cases h32 : 32 < 1 + pre.length
          · have htok : tokenS (c :: r) = .err 27 := by rw [tokenS, if_neg hnum, if_neg h39, if_pos hL, nameTok, hw, if_pos (by rw [List.length_cons]; omega)]
            rw [nextR_err htok]
            simp -implicitDefEqProofs (disch := omega) only [↓ZD,ZP,cnd_t,cnd_f,↓reduceIte,Env.put,stepO,lenV,binV,binInt,unV,loadV,sliceV,boundOf,convV,slstrV,if_pos,if_neg,Int.reduceToNat,Nat.reducePow,V.cells,V.isCell,V.boxable,Nat.reduceEqDiff,reduceCtorEq,reduceIte,ite_self,enterEnv,e0,e1,e4,e7,e8,e9,hat,hsb,fillL,evParts,splice,List.take_zero,List.take_succ_cons,List.drop_succ_cons,List.drop_zero,List.drop_nil,tokH,loadV,↓done_lmm]
            refine calP_ro rfl gx rfl ?_
            simp -implicitDefEqProofs (disch := omega) only [↓ZD,ZP,cnd_t,cnd_f,↓reduceIte,Env.put,stepO,lenV,binV,binInt,unV,loadV,sliceV,boundOf,convV,slstrV,if_pos,if_neg,Int.reduceToNat,Nat.reducePow,V.cells,V.isCell,V.boxable,Nat.reduceEqDiff,reduceCtorEq,reduceIte,ite_self,enterEnv,e0,e1,e4,e7,e8,e9,hat]
            refine calP_ro rfl gy rfl ?_
            simp -implicitDefEqProofs (disch := omega) only [↓ZD,ZP,cnd_t,cnd_f,↓reduceIte,Env.put,stepO,lenV,binV,binInt,unV,loadV,sliceV,boundOf,convV,slstrV,if_pos,if_neg,Int.reduceToNat,Nat.reducePow,V.cells,V.isCell,V.boxable,Nat.reduceEqDiff,reduceCtorEq,reduceIte,ite_self,enterEnv,e0,e1,e4,e7,e8,e9,hat,hsb,fillL,evParts,splice,List.take_zero,List.take_succ_cons,List.drop_succ_cons,List.drop_zero,List.drop_nil,tokH,rl_len,slice_rl,convV,readSl,runesOf_rl,htk,htl,hsub,loadV,↓done_lmm]
            exact gives_ro rfl
          · have htok : tokenS (c :: r) = .ok 3 (1 + pre.length) nilV nilV := by rw [tokenS, if_neg hnum, if_neg h39, if_pos hL, nameTok, hw, if_neg (by rw [List.length_cons]; omega), List.length_cons, Nat.add_comm]
            have harr : arrS (c :: r) = (nilV, nilV) := by rw [arrS, if_neg hnum, if_neg h39]
            rw [nextR_ok htok, harr]
            have htk2 : (c :: r).take (1 + pre.length) = c :: pre := by rw [← hd]; exact htk
            rw [htk2]
            simp -implicitDefEqProofs (disch := omega) only [↓ZD,ZP,cnd_t,cnd_f,↓reduceIte,Env.put,stepO,lenV,binV,binInt,unV,loadV,sliceV,boundOf,convV,slstrV,if_pos,if_neg,Int.reduceToNat,Nat.reducePow,V.cells,V.isCell,V.boxable,Nat.reduceEqDiff,reduceCtorEq,reduceIte,ite_self,enterEnv,e0,e1,e4,e7,e8,e9,hat,hsb,fillL,evParts,splice,List.take_zero,List.take_succ_cons,List.drop_succ_cons,List.drop_zero,List.drop_nil,tokH,rl_len,slice_rl,convV,readSl,runesOf_rl,htk,htl,hsub,loadV,↓done_lmm]
            refine calP_ro rfl gx rfl ?_
            simp -implicitDefEqProofs (disch := omega) only [↓ZD,ZP,cnd_t,cnd_f,↓reduceIte,Env.put,stepO,lenV,binV,binInt,unV,loadV,sliceV,boundOf,convV,slstrV,if_pos,if_neg,Int.reduceToNat,Nat.reducePow,V.cells,V.isCell,V.boxable,Nat.reduceEqDiff,reduceCtorEq,reduceIte,ite_self,enterEnv,e0,e1,e4,e7,e8,e9,hat]
            refine calP_ro rfl gy rfl ?_
            simp -implicitDefEqProofs (disch := omega) only [↓ZD,ZP,cnd_t,cnd_f,↓reduceIte,Env.put,stepO,lenV,binV,binInt,unV,loadV,sliceV,boundOf,convV,slstrV,if_pos,if_neg,Int.reduceToNat,Nat.reducePow,V.cells,V.isCell,V.boxable,Nat.reduceEqDiff,reduceCtorEq,reduceIte,ite_self,enterEnv,e0,e1,e4,e7,e8,e9,hat,hsb,fillL,evParts,splice,List.take_zero,List.take_succ_cons,List.drop_succ_cons,List.drop_zero,List.drop_nil,tokH,rl_len,slice_rl,convV,readSl,runesOf_rl,htk,htl,hsub,loadV,↓done_lmm]
            exact gives_ro rfl
  by_cases hq : c = 9109
  · have hg3 := good443 c
    have hLf : isL c = false := by simpa using hL
    rw [hLf] at hg3
    simp -implicitDefEqProofs (disch := omega) only [↓ZD,ZP,cnd_t,cnd_f,↓reduceIte,Env.put,stepO,lenV,binV,binInt,unV,loadV,sliceV,boundOf,convV,slstrV,if_pos,if_neg,Int.reduceToNat,Nat.reducePow,V.cells,V.isCell,V.boxable,Nat.reduceEqDiff,reduceCtorEq,reduceIte,ite_self,enterEnv,e0,e1,rsl,rl_len,hat0,fillL,evParts,splice,List.take_zero,List.take_succ_cons,List.drop_succ_cons,List.drop_zero,List.drop_nil,hD]
    refine calP_ro rfl hg3 rfl ?_
    simp -implicitDefEqProofs (disch := omega) only [↓ZD,ZP,cnd_t,cnd_f,↓reduceIte,Env.put,stepO,lenV,binV,binInt,unV,loadV,sliceV,boundOf,convV,slstrV,if_pos,if_neg,Int.reduceToNat,Nat.reducePow,V.cells,V.isCell,V.boxable,Nat.reduceEqDiff,reduceCtorEq,reduceIte,ite_self,enterEnv,e0,e1,rsl,rl_len,hat0,fillL,evParts,splice,List.take_zero,List.take_succ_cons,List.drop_succ_cons,List.drop_zero,List.drop_nil]
    · skip
      refine go_loop (fun m e H => ∃ pre post, r = pre ++ post ∧ r.takeWhile quadC = pre ++ post.takeWhile quadC ∧ m = post.length ∧ H = tokH i ∧ e 0 = .sl false (rl rs) rs.length ∧ e 1 = .int .i64 (i : Nat) ∧ e 4 = .cell 0 0 0 ∧ e 7 = .int .i32 (c : Nat) ∧ e 8 = .int .i64 ((i + (1 + pre.length) : Nat) : Int) ∧ e 9 = .cell 1 0 0) r.length
        ⟨[], r, rfl, rfl, rfl, rfl, ?_, ?_, ?_, ?_, ?_, ?_⟩ ?_
      · simp [Env.set, e0, rsl]
      · simp [Env.set, e1]
      · simp [Env.set]
      · simp [Env.set]
      · simp [Env.set]
      · simp [Env.set]
      clear e0 e1
      rintro m e H ⟨pre, post, hr, htw, rfl, rfl, e0, e1, e4, e7, e8, e9⟩
      have hpl : r.length = pre.length + post.length := by rw [hr]; simp
      cases post with
      | nil =>
        simp only [List.length_nil,Nat.add_zero] at hpl
        have hw : r.takeWhile quadC = pre := by rw [htw]; simp
        have htk : (rs.drop i).take (1 + pre.length) = c :: pre := by rw [hd, Nat.add_comm 1, List.take_succ_cons, ← hw, take_while_len]
        have htl : (rl (c :: pre)).length = 1 + pre.length := by rw [rl_len, List.length_cons, Nat.add_comm]
        have htk2 : (c :: r).take (1 + pre.length) = c :: pre := by rw [← hd]; exact htk
        have htok : tokenS (c :: r) = .ok 4 (1 + pre.length) nilV nilV := by rw [tokenS, if_neg hnum, if_neg h39, if_neg hL, if_pos hq, hw]
        have harr : arrS (c :: r) = (nilV, nilV) := by rw [arrS, if_neg hnum, if_neg h39]
        rw [nextR_ok htok, harr, htk2]
        simp -implicitDefEqProofs (disch := omega) only [↓ZD,ZP,cnd_t,cnd_f,↓reduceIte,Env.put,stepO,lenV,binV,binInt,unV,loadV,sliceV,boundOf,convV,slstrV,if_pos,if_neg,Int.reduceToNat,Nat.reducePow,V.cells,V.isCell,V.boxable,Nat.reduceEqDiff,reduceCtorEq,reduceIte,ite_self,enterEnv,e0,e1,e4,e7,e8,e9,fillL,evParts,splice,List.take_zero,List.take_succ_cons,List.drop_succ_cons,List.drop_zero,List.drop_nil,tokH,rl_len,slice_rl,convV,readSl,runesOf_rl,htk,htl,hsub,loadV,↓done_lmm]
        exact gives_ro rfl
      | cons x post =>
        have hat := at_drop hd hr (n := i + (1 + pre.length)) (by omega)
        have hlt : i + (1 + pre.length) < rs.length := by simp only [List.length_cons] at hpl; omega
        by_cases hxn : quadC x = true
        · have hq2 : (65 ≤ x ∧ x ≤ 90) ∨ (65 ≤ x ∧ ¬ x ≤ 90 ∧ 97 ≤ x ∧ x ≤ 122) := by simp [quadC, isCap, isSm] at hxn; omega
          have go : ∃ m, m < (x :: post).length ∧ ∃ pre' post', r = pre' ++ post' ∧ r.takeWhile quadC = pre' ++ post'.takeWhile quadC ∧ m = post'.length ∧ i + (1 + pre.length + 1) = i + (1 + pre'.length) := by
            refine ⟨post.length, by simp, pre ++ [x], post, by rw [hr]; simp, ?_, rfl, by simp; omega⟩
            rw [htw, List.takeWhile_cons, if_pos hxn]; simp
          obtain ⟨m', g1, pre', post', g2, g3, g4, g5⟩ := go
          have hi' : ((i + (1 + pre.length) + 1 : Nat) : Int) = ((i + (1 + pre'.length) : Nat) : Int) := by omega
          rcases hq2 with ⟨q1, q2⟩ | ⟨q1, q2, q3, q4⟩
          · simp -implicitDefEqProofs (disch := omega) only [↓ZD,ZP,cnd_t,cnd_f,↓reduceIte,Env.put,stepO,lenV,binV,binInt,unV,loadV,sliceV,boundOf,convV,slstrV,if_pos,if_neg,Int.reduceToNat,Nat.reducePow,V.cells,V.isCell,V.boxable,Nat.reduceEqDiff,reduceCtorEq,reduceIte,ite_self,enterEnv,e0,e1,e4,e7,e8,e9,hat,hi']
            exact ⟨m', g1, pre', post', g2, g3, g4, rfl⟩
          · simp -implicitDefEqProofs (disch := omega) only [↓ZD,ZP,cnd_t,cnd_f,↓reduceIte,Env.put,stepO,lenV,binV,binInt,unV,loadV,sliceV,boundOf,convV,slstrV,if_pos,if_neg,Int.reduceToNat,Nat.reducePow,V.cells,V.isCell,V.boxable,Nat.reduceEqDiff,reduceCtorEq,reduceIte,ite_self,enterEnv,e0,e1,e4,e7,e8,e9,hat,hi']
            exact ⟨m', g1, pre', post', g2, g3, g4, rfl⟩
        · have hxf : quadC x = false := by simpa using hxn
          have hq2 : (¬ 65 ≤ x ∧ ¬ 97 ≤ x) ∨ (65 ≤ x ∧ ¬ x ≤ 90 ∧ ¬ 97 ≤ x) ∨ (65 ≤ x ∧ ¬ x ≤ 90 ∧ 97 ≤ x ∧ ¬ x ≤ 122) := by simp [quadC, isCap, isSm] at hxf; omega
          have hw : r.takeWhile quadC = pre := by rw [htw, List.takeWhile_cons, hxf]; simp
          have htk : (rs.drop i).take (1 + pre.length) = c :: pre := by rw [hd, Nat.add_comm 1, List.take_succ_cons, ← hw, take_while_len]
          have htl : (rl (c :: pre)).length = 1 + pre.length := by rw [rl_len, List.length_cons, Nat.add_comm]
          have htk2 : (c :: r).take (1 + pre.length) = c :: pre := by rw [← hd]; exact htk
          have htok : tokenS (c :: r) = .ok 4 (1 + pre.length) nilV nilV := by rw [tokenS, if_neg hnum, if_neg h39, if_neg hL, if_pos hq, hw]
          have harr : arrS (c :: r) = (nilV, nilV) := by rw [arrS, if_neg hnum, if_neg h39]
          rw [nextR_ok htok, harr, htk2]
          rcases hq2 with ⟨q1, q2⟩ | ⟨q1, q2, q3⟩ | ⟨q1, q2, q3, q4⟩
          · simp -implicitDefEqProofs (disch := omega) only [↓ZD,ZP,cnd_t,cnd_f,↓reduceIte,Env.put,stepO,lenV,binV,binInt,unV,loadV,sliceV,boundOf,convV,slstrV,if_pos,if_neg,Int.reduceToNat,Nat.reducePow,V.cells,V.isCell,V.boxable,Nat.reduceEqDiff,reduceCtorEq,reduceIte,ite_self,enterEnv,e0,e1,e4,e7,e8,e9,hat,fillL,evParts,splice,List.take_zero,List.take_succ_cons,List.drop_succ_cons,List.drop_zero,List.drop_nil,tokH,rl_len,slice_rl,convV,readSl,runesOf_rl,htk,htl,hsub,loadV,↓done_lmm]
            exact gives_ro rfl
          · simp -implicitDefEqProofs (disch := omega) only [↓ZD,ZP,cnd_t,cnd_f,↓reduceIte,Env.put,stepO,lenV,binV,binInt,unV,loadV,sliceV,boundOf,convV,slstrV,if_pos,if_neg,Int.reduceToNat,Nat.reducePow,V.cells,V.isCell,V.boxable,Nat.reduceEqDiff,reduceCtorEq,reduceIte,ite_self,enterEnv,e0,e1,e4,e7,e8,e9,hat,fillL,evParts,splice,List.take_zero,List.take_succ_cons,List.drop_succ_cons,List.drop_zero,List.drop_nil,tokH,rl_len,slice_rl,convV,readSl,runesOf_rl,htk,htl,hsub,loadV,↓done_lmm]
            exact gives_ro rfl
          · simp -implicitDefEqProofs (disch := omega) only [↓ZD,ZP,cnd_t,cnd_f,↓reduceIte,Env.put,stepO,lenV,binV,binInt,unV,loadV,sliceV,boundOf,convV,slstrV,if_pos,if_neg,Int.reduceToNat,Nat.reducePow,V.cells,V.isCell,V.boxable,Nat.reduceEqDiff,reduceCtorEq,reduceIte,ite_self,enterEnv,e0,e1,e4,e7,e8,e9,hat,fillL,evParts,splice,List.take_zero,List.take_succ_cons,List.drop_succ_cons,List.drop_zero,List.drop_nil,tokH,rl_len,slice_rl,convV,readSl,runesOf_rl,htk,htl,hsub,loadV,↓done_lmm]
            exact gives_ro rfl
  have hL' : isL c = false := by simpa using hL
  have htk : (rs.drop i).take 1 = [c] := by rw [hd]; rfl
  have htl : (rl [c]).length = 1 := rfl
  by_cases hP : isP c = true
  · have htok : tokenS (c :: r) = .ok 5 1 nilV nilV := by rw [tokenS, if_neg hnum, if_neg h39, if_neg hL, if_neg hq, if_pos hP]
    have harr : arrS (c :: r) = (nilV, nilV) := by rw [arrS, if_neg hnum, if_neg h39]
    rw [nextR_ok htok, harr]
    have hgp := good210 c
    rw [inI_nat, show decide (c ∈ rn primB) = isP c from rfl, hP] at hgp
    simp -implicitDefEqProofs (disch := omega) only [↓ZD,ZP,cnd_t,cnd_f,↓reduceIte,Env.put,stepO,lenV,binV,binInt,unV,loadV,sliceV,boundOf,convV,slstrV,if_pos,if_neg,Int.reduceToNat,Nat.reducePow,V.cells,V.isCell,V.boxable,Nat.reduceEqDiff,reduceCtorEq,reduceIte,ite_self,enterEnv,e0,e1,rsl,rl_len,hat0,fillL,evParts,splice,List.take_zero,List.take_succ_cons,List.drop_succ_cons,List.drop_zero,List.drop_nil,hD]
    refine calP_ro rfl (good443 c) rfl ?_
    simp -implicitDefEqProofs (disch := omega) only [↓ZD,ZP,cnd_t,cnd_f,↓reduceIte,Env.put,stepO,lenV,binV,binInt,unV,loadV,sliceV,boundOf,convV,slstrV,if_pos,if_neg,Int.reduceToNat,Nat.reducePow,V.cells,V.isCell,V.boxable,Nat.reduceEqDiff,reduceCtorEq,reduceIte,ite_self,enterEnv,e0,e1,rsl,rl_len,hat0,fillL,evParts,splice,List.take_zero,List.take_succ_cons,List.drop_succ_cons,List.drop_zero,List.drop_nil,hL']
    refine calP_ro rfl hgp rfl ?_
    simp -implicitDefEqProofs (disch := omega) only [↓ZD,ZP,cnd_t,cnd_f,↓reduceIte,Env.put,stepO,lenV,binV,binInt,unV,loadV,sliceV,boundOf,convV,slstrV,if_pos,if_neg,Int.reduceToNat,Nat.reducePow,V.cells,V.isCell,V.boxable,Nat.reduceEqDiff,reduceCtorEq,reduceIte,ite_self,enterEnv,e0,e1,rsl,rl_len,hat0,fillL,evParts,splice,List.take_zero,List.take_succ_cons,List.drop_succ_cons,List.drop_zero,List.drop_nil,slice_rl,convV,readSl,runesOf_rl,htk,htl,hsub,loadV,↓done_lmm]
    exact gives_ro rfl
  · have hP' : isP c = false := by simpa using hP
    have hgp := good210 c
    rw [inI_nat, show decide (c ∈ rn primB) = isP c from rfl, hP'] at hgp
    have hgs := good218 signB c (by decide)
    rw [inI_nat, show decide (c ∈ rn signB) = isS c from rfl] at hgs
    by_cases hS : isS c = true
    · have htok : tokenS (c :: r) = .ok 6 1 nilV nilV := by rw [tokenS, if_neg hnum, if_neg h39, if_neg hL, if_neg hq, if_neg hP, if_pos hS]
      have harr : arrS (c :: r) = (nilV, nilV) := by rw [arrS, if_neg hnum, if_neg h39]
      rw [nextR_ok htok, harr]
      rw [hS] at hgs
      simp -implicitDefEqProofs (disch := omega) only [↓ZD,ZP,cnd_t,cnd_f,↓reduceIte,Env.put,stepO,lenV,binV,binInt,unV,loadV,sliceV,boundOf,convV,slstrV,if_pos,if_neg,Int.reduceToNat,Nat.reducePow,V.cells,V.isCell,V.boxable,Nat.reduceEqDiff,reduceCtorEq,reduceIte,ite_self,enterEnv,e0,e1,rsl,rl_len,hat0,fillL,evParts,splice,List.take_zero,List.take_succ_cons,List.drop_succ_cons,List.drop_zero,List.drop_nil,hD]
      refine calP_ro rfl (good443 c) rfl ?_
      simp -implicitDefEqProofs (disch := omega) only [↓ZD,ZP,cnd_t,cnd_f,↓reduceIte,Env.put,stepO,lenV,binV,binInt,unV,loadV,sliceV,boundOf,convV,slstrV,if_pos,if_neg,Int.reduceToNat,Nat.reducePow,V.cells,V.isCell,V.boxable,Nat.reduceEqDiff,reduceCtorEq,reduceIte,ite_self,enterEnv,e0,e1,rsl,rl_len,hat0,fillL,evParts,splice,List.take_zero,List.take_succ_cons,List.drop_succ_cons,List.drop_zero,List.drop_nil,hL']
      refine calP_ro rfl hgp rfl ?_
      simp -implicitDefEqProofs (disch := omega) only [↓ZD,ZP,cnd_t,cnd_f,↓reduceIte,Env.put,stepO,lenV,binV,binInt,unV,loadV,sliceV,boundOf,convV,slstrV,if_pos,if_neg,Int.reduceToNat,Nat.reducePow,V.cells,V.isCell,V.boxable,Nat.reduceEqDiff,reduceCtorEq,reduceIte,ite_self,enterEnv,e0,e1,rsl,rl_len,hat0,fillL,evParts,splice,List.take_zero,List.take_succ_cons,List.drop_succ_cons,List.drop_zero,List.drop_nil]
      refine calP_ro rfl good446 rfl ?_
      simp -implicitDefEqProofs (disch := omega) only [↓ZD,ZP,cnd_t,cnd_f,↓reduceIte,Env.put,stepO,lenV,binV,binInt,unV,loadV,sliceV,boundOf,convV,slstrV,if_pos,if_neg,Int.reduceToNat,Nat.reducePow,V.cells,V.isCell,V.boxable,Nat.reduceEqDiff,reduceCtorEq,reduceIte,ite_self,enterEnv,e0,e1,rsl,rl_len,hat0,fillL,evParts,splice,List.take_zero,List.take_succ_cons,List.drop_succ_cons,List.drop_zero,List.drop_nil]
      refine calP_ro rfl hgs rfl ?_
      simp -implicitDefEqProofs (disch := omega) only [↓ZD,ZP,cnd_t,cnd_f,↓reduceIte,Env.put,stepO,lenV,binV,binInt,unV,loadV,sliceV,boundOf,convV,slstrV,if_pos,if_neg,Int.reduceToNat,Nat.reducePow,V.cells,V.isCell,V.boxable,Nat.reduceEqDiff,reduceCtorEq,reduceIte,ite_self,enterEnv,e0,e1,rsl,rl_len,hat0,fillL,evParts,splice,List.take_zero,List.take_succ_cons,List.drop_succ_cons,List.drop_zero,List.drop_nil,slice_rl,convV,readSl,runesOf_rl,htk,htl,hsub,loadV,↓done_lmm]
      exact gives_ro rfl
    · have htok : tokenS (c :: r) = .err 26 := by rw [tokenS, if_neg hnum, if_neg h39, if_neg hL, if_neg hq, if_neg hP, if_neg hS]
      rw [nextR_err htok]
      have hS' : isS c = false := by simpa using hS
      rw [hS'] at hgs
      simp -implicitDefEqProofs (disch := omega) only [↓ZD,ZP,cnd_t,cnd_f,↓reduceIte,Env.put,stepO,lenV,binV,binInt,unV,loadV,sliceV,boundOf,convV,slstrV,if_pos,if_neg,Int.reduceToNat,Nat.reducePow,V.cells,V.isCell,V.boxable,Nat.reduceEqDiff,reduceCtorEq,reduceIte,ite_self,enterEnv,e0,e1,rsl,rl_len,hat0,fillL,evParts,splice,List.take_zero,List.take_succ_cons,List.drop_succ_cons,List.drop_zero,List.drop_nil,hD]
      refine calP_ro rfl (good443 c) rfl ?_
      simp -implicitDefEqProofs (disch := omega) only [↓ZD,ZP,cnd_t,cnd_f,↓reduceIte,Env.put,stepO,lenV,binV,binInt,unV,loadV,sliceV,boundOf,convV,slstrV,if_pos,if_neg,Int.reduceToNat,Nat.reducePow,V.cells,V.isCell,V.boxable,Nat.reduceEqDiff,reduceCtorEq,reduceIte,ite_self,enterEnv,e0,e1,rsl,rl_len,hat0,fillL,evParts,splice,List.take_zero,List.take_succ_cons,List.drop_succ_cons,List.drop_zero,List.drop_nil,hL']
      refine calP_ro rfl hgp rfl ?_
      simp -implicitDefEqProofs (disch := omega) only [↓ZD,ZP,cnd_t,cnd_f,↓reduceIte,Env.put,stepO,lenV,binV,binInt,unV,loadV,sliceV,boundOf,convV,slstrV,if_pos,if_neg,Int.reduceToNat,Nat.reducePow,V.cells,V.isCell,V.boxable,Nat.reduceEqDiff,reduceCtorEq,reduceIte,ite_self,enterEnv,e0,e1,rsl,rl_len,hat0,fillL,evParts,splice,List.take_zero,List.take_succ_cons,List.drop_succ_cons,List.drop_zero,List.drop_nil]
      refine calP_ro rfl good446 rfl ?_
      simp -implicitDefEqProofs (disch := omega) only [↓ZD,ZP,cnd_t,cnd_f,↓reduceIte,Env.put,stepO,lenV,binV,binInt,unV,loadV,sliceV,boundOf,convV,slstrV,if_pos,if_neg,Int.reduceToNat,Nat.reducePow,V.cells,V.isCell,V.boxable,Nat.reduceEqDiff,reduceCtorEq,reduceIte,ite_self,enterEnv,e0,e1,rsl,rl_len,hat0,fillL,evParts,splice,List.take_zero,List.take_succ_cons,List.drop_succ_cons,List.drop_zero,List.drop_nil]
      refine calP_ro rfl hgs rfl ?_
      simp -implicitDefEqProofs (disch := omega) only [↓ZD,ZP,cnd_t,cnd_f,↓reduceIte,Env.put,stepO,lenV,binV,binInt,unV,loadV,sliceV,boundOf,convV,slstrV,if_pos,if_neg,Int.reduceToNat,Nat.reducePow,V.cells,V.isCell,V.boxable,Nat.reduceEqDiff,reduceCtorEq,reduceIte,ite_self,enterEnv,e0,e1,rsl,rl_len,hat0,fillL,evParts,splice,List.take_zero,List.take_succ_cons,List.drop_succ_cons,List.drop_zero,List.drop_nil,loadV,↓done_lmm]
      exact gives_ro rfl
end Fe
open Go Go.Proofs
namespace Fe
def b408 : C :=
 (.seq
 (.region false [
 oQ 2 (.mov (.c (.sl true [] 0))),
 oQ 3 (.mov (.c (.int .i64 0))),
 oQ 4 (.mov (.c (.int .i64 0)))])
 (.seq
 (.seq
 (.region false [
 oQ 12 (.mov (.t 0)),
 oQ 13 (.len true (.t 12)),
 oQ 14 (.bin 0 .gtr (.t 13) (.c (.int .i64 1024)))])
 (.cond (.t 14)
 (.seq
 (.region false [
 oQ 2 (.mov (.c (.sl true [] 0))),
 oQ 3 (.mov (.c (.int .i64 25))),
 oQ 4 (.mov (.c (.int .i64 0)))])
 .ret)
 .skip))
 (.seq
 (.region false [
 oQ 16 (.mov (.t 0)),
 ⟨some 17, .call false (.c (.fn 99 [] [])) [.t 16], none⟩,
 oQ 15 (.mov (.t 17)),
 oQ 18 (.extract (.t 15) 0),
 oQ 19 (.extract (.t 15) 1),
 oQ 20 (.extract (.t 15) 2),
 oQ 5 (.mov (.t 18)),
 oQ 6 (.mov (.t 19)),
 oQ 7 (.mov (.t 20))])
 (.seq
 (.seq
 (.region false [
 oQ 21 (.mov (.t 6)),
 oQ 22 (.bin 0 .neq (.t 21) (.c (.int .i64 0)))])
 (.cond (.t 22)
 (.seq
 (.region false [
 oQ 23 (.mov (.t 6)),
 oQ 24 (.mov (.t 7)),
 oQ 2 (.mov (.c (.sl true [] 0))),
 oQ 3 (.mov (.t 23)),
 oQ 4 (.mov (.t 24))])
 .ret)
 .skip))
 (.seq
 (.region false [
 oQ 8 (.mov (.c (.sl true [] 0)))])
 (.seq
 (.block 0
 (.loop
 (.seq
 (.seq
 (.region false [
 oQ 25 (.mov (.t 7)),
 oQ 26 (.mov (.t 5)),
 oQ 27 (.len false (.t 26)),
 oQ 28 (.bin 0 .lss (.t 25) (.t 27)),
 oQ 29 (.mov (.t 28)),
 ⟨some 30, .op (.mov (.t 5)), some (29, true)⟩,
 ⟨some 31, .op (.mov (.t 7)), some (29, true)⟩,
 ⟨some 32, .op (.iaddr 1 (.t 30) (.t 31)), some (29, true)⟩,
 ⟨some 33, .op (.load false 1 (.t 32)), some (29, true)⟩,
 ⟨some 34, .op (.bin 0 .neq (.t 33) (.c (.int .i32 9053))), some (29, true)⟩,
 oQ 35 (.pick (.t 29) (.t 34) (.c (.bool false)))])
 (.cond (.t 35)
 .skip
 (.exit 0)))
 (.block 1
 (.seq
 (.seq
 (.region false [
 oQ 36 (.mov (.t 5)),
 oQ 37 (.mov (.t 7)),
 oQ 38 (.iaddr 1 (.t 36) (.t 37)),
 oQ 39 (.load false 1 (.t 38)),
 oQ 40 (.bin 0 .eql (.t 39) (.c (.int .i32 32))),
 oQ 41 (.mov (.t 40)),
 ⟨some 42, .op (.mov (.t 5)), some (41, false)⟩,
 ⟨some 43, .op (.mov (.t 7)), some (41, false)⟩,
 ⟨some 44, .op (.iaddr 1 (.t 42) (.t 43)), some (41, false)⟩,
 ⟨some 45, .op (.load false 1 (.t 44)), some (41, false)⟩,
 ⟨some 46, .op (.bin 0 .eql (.t 45) (.c (.int .i32 9))), some (41, false)⟩,
 oQ 47 (.pick (.t 41) (.c (.bool true)) (.t 46))])
 (.cond (.t 47)
 (.seq
 (.region false [
 oQ 48 (.mov (.t 7)),
 oQ 49 (.bin 0 .add (.t 48) (.c (.int .i64 1))),
 oQ 7 (.mov (.t 49))])
 (.exit 1))
 .skip))
 (.seq
 (.region false [
 oQ 51 (.mov (.t 5)),
 oQ 52 (.mov (.t 7)),
 ⟨some 53, .call false (.c (.fn 108 [] [])) [.t 51, .t 52], none⟩,
 oQ 50 (.mov (.t 53)),
 oQ 54 (.extract (.t 50) 0),
 oQ 55 (.extract (.t 50) 1),
 oQ 56 (.extract (.t 50) 2),
 oQ 9 (.box (.c (.agg [.int .i64 0, .str [], .int .i64 0, .sl true [] 0, .sl true [] 0]))),
 ⟨none, .op (.store 5 (.t 9) (.t 54)), none⟩,
 oQ 10 (.mov (.t 55)),
 oQ 11 (.mov (.t 56))])
 (.seq
 (.seq
 (.region false [
 oQ 57 (.mov (.t 11)),
 oQ 58 (.bin 0 .neq (.t 57) (.c (.int .i64 0)))])
 (.cond (.t 58)
 (.seq
 (.region false [
 oQ 59 (.mov (.t 11)),
 oQ 60 (.mov (.t 7)),
 oQ 2 (.mov (.c (.sl true [] 0))),
 oQ 3 (.mov (.t 59)),
 oQ 4 (.mov (.t 60))])
 .ret)
 .skip))
 (.seq
 (.region false [
 oQ 61 (.mov (.t 8)),
 oQ 62 (.load true 5 (.t 9)),
 oQ 63 (.mksl [.int .i64 0, .str [], .int .i64 0, .sl true [] 0, .sl true [] 0] 1 [(0, (5, .t 62))]),
 oQ 64 (.append 5 80 (.t 61) (.t 63)),
 oQ 8 (.mov (.t 64))])
 (.region false [
 oQ 65 (.mov (.t 10)),
 oQ 7 (.mov (.t 65))])))))))))
 (.seq
 (.region false [
 oQ 66 (.mov (.t 8)),
 oQ 67 (.mov (.t 7)),
 oQ 68 (.build [.int .i64 0, .str [], .int .i64 0, .sl true [] 0, .sl true [] 0] [(2, (1, .t 67))]),
 oQ 69 (.mksl [.int .i64 0, .str [], .int .i64 0, .sl true [] 0, .sl true [] 0] 1 [(0, (5, .t 68))]),
 oQ 70 (.append 5 80 (.t 66) (.t 69)),
 oQ 2 (.mov (.t 70)),
 oQ 3 (.mov (.c (.int .i64 0))),
 oQ 4 (.mov (.c (.int .i64 0)))])
 .ret)))))))
def c408 : CF := ⟨71, 1, [.mov (.t 2), .mov (.t 3), .mov (.t 4)], b408⟩
theorem s408 : stripF Go.Proofs.Tryz.prog 58 = some c408 := by kernel_rfl

/-! ### A line's tokens, by both -/
structure Tk where
  kind : Nat
  text : List UInt8
  pos : Nat
  a1 : V
  a2 : V
  b1 : V
  b2 : V
def Tk.L (t : Tk) : List V := tokC t.kind t.text t.pos t.a1 t.a2
def Tk.R (t : Tk) : List V := [.int .i64 (t.kind : Nat), .str t.text, .int .i64 (t.pos : Nat), t.b1, t.b2]
def endT (i : Nat) : Tk := ⟨0, [], i, nilV, nilV, nilV, nilV⟩

def lexP : Nat → Nat → List Nat → Except (Nat × Nat) (List Tk)
  | 0, _, _ => .ok []
  | n + 1, i, l =>
    match l.dropWhile blankC with
    | [] => .ok [endT (i + (l.takeWhile blankC).length)]
    | c :: r => if c = 9053 then .ok [endT (i + (l.takeWhile blankC).length)] else match tokenS (c :: r) with
      | .err e => .error (e, i + (l.takeWhile blankC).length)
      | .ok kind k a1 a2 => match lexP n (i + (l.takeWhile blankC).length + k) ((c :: r).drop k) with
        | .error x => .error x
        | .ok ts => .ok (⟨kind, encs ((c :: r).take k), i + (l.takeWhile blankC).length, a1, a2, (arrS (c :: r)).1, (arrS (c :: r)).2⟩ :: ts)

theorem lexL_P : ∀ (n i : Nat) (l : List Nat), lexL n i l = match lexP n i l with
    | .error x => .error x
    | .ok ts => .ok (ts.map Tk.L)
  | 0, i, l => rfl
  | n + 1, i, l => by
    rw [lexL, lexP]
    cases hdw : l.dropWhile blankC with
    | nil => rfl
    | cons c r =>
      simp only
      by_cases hc : c = 9053
      · rw [if_pos hc, if_pos hc]; rfl
      · rw [if_neg hc, if_neg hc]
        cases htok : tokenS (c :: r) with
        | err e => rfl
        | ok kind k a1 a2 =>
          simp only
          rw [lexL_P n]
          cases lexP n (i + (l.takeWhile blankC).length + k) ((c :: r).drop k) with
          | error x => rfl
          | ok ts => rfl

theorem dw_len {p : Nat → Bool} (l : List Nat) : (l.dropWhile p).length ≤ l.length := by
  have : (l.takeWhile p ++ l.dropWhile p).length = l.length := by rw [List.takeWhile_append_dropWhile]
  rw [List.length_append] at this
  omega

theorem lexP_fuel : ∀ (n m i : Nat) (l : List Nat), l.length < n → l.length < m → lexP n i l = lexP m i l
  | 0, _, i, l, h, _ => by omega
  | _ + 1, 0, i, l, _, h => by omega
  | n + 1, m + 1, i, l, h1, h2 => by
    rw [lexP, lexP]
    have hdl := dw_len (p := blankC) l
    cases hdw : l.dropWhile blankC with
    | nil => rfl
    | cons c r =>
      rw [hdw] at hdl
      simp only
      by_cases hc : c = 9053
      · rw [if_pos hc, if_pos hc]
      · rw [if_neg hc, if_neg hc]
        cases htok : tokenS (c :: r) with
        | err e => rfl
        | ok kind k a1 a2 =>
          have hk := tokenS_n htok
          have hd : ((c :: r).drop k).length = (c :: r).length - k := List.length_drop
          simp only
          rw [lexP_fuel n m _ _ (by omega) (by omega)]

def lexT (i : Nat) (l : List Nat) : Except (Nat × Nat) (List Tk) := lexP (l.length + 1) i l
theorem lexT_nil (i : Nat) : lexT i [] = .ok [endT i] := rfl
theorem lexT_com (i : Nat) (r : List Nat) : lexT i (9053 :: r) = .ok [endT i] := by
  rw [lexT, List.length_cons, lexP]; rfl
theorem lexT_blank {c : Nat} (h : blankC c = true) (i : Nat) (l : List Nat) : lexT i (c :: l) = lexT (i + 1) l := by
  rw [lexT, lexT, List.length_cons, lexP_fuel (l.length + 1) (l.length + 1 + 1) (i + 1) l (by omega) (by omega), lexP, lexP]
  simp only [List.dropWhile_cons,List.takeWhile_cons,h,if_true,List.length_cons]
  rw [show i + ((l.takeWhile blankC).length + 1) = i + 1 + (l.takeWhile blankC).length by omega]
theorem lexT_tok {c : Nat} (h : blankC c = false) (hc : c ≠ 9053) (i : Nat) (r : List Nat) : lexT i (c :: r) = match tokenS (c :: r) with
    | .err e => .error (e, i)
    | .ok kind k a1 a2 => match lexT (i + k) ((c :: r).drop k) with
      | .error x => .error x
      | .ok ts => .ok (⟨kind, encs ((c :: r).take k), i, a1, a2, (arrS (c :: r)).1, (arrS (c :: r)).2⟩ :: ts) := by
  rw [lexT, List.length_cons, lexP]
  simp only [List.dropWhile_cons,List.takeWhile_cons,h,Bool.false_eq_true,if_false,List.length_nil,Nat.add_zero]
  rw [if_neg hc]
  cases htok : tokenS (c :: r) with
  | err e => rfl
  | ok kind k a1 a2 =>
    have hk := tokenS_n htok
    simp only
    have hd : ((c :: r).drop k).length = (c :: r).length - k := List.length_drop
    rw [lexT, lexP_fuel (r.length + 1) (((c :: r).drop k).length + 1) _ _ (by rw [hd, List.length_cons]; omega) (by omega)]

theorem arrS_sl (l : List Nat) : ∃ e1 l1 n1 e2 l2 n2, arrS l = (.sl e1 l1 n1, .sl e2 l2 n2) ∧ roL l1 = true ∧ roL l2 = true := by
  cases l with
  | nil => exact ⟨_, _, _, _, _, _, rfl, rfl, rfl⟩
  | cons c r =>
    rw [arrS]
    split
    · obtain ⟨b, x, y, m, h⟩ := ratP_agg (encs (c :: r.takeWhile numC))
      rw [h]
      exact ⟨_, _, _, _, _, _, rfl, rfl, by simp [itemRV, rv, V.ro, roL, nf_ro, nilV]⟩
    split
    · cases textS r with
      | none => exact ⟨_, _, _, _, _, _, rfl, rfl, rfl⟩
      | some p =>
        simp only
        split
        · exact ⟨_, _, _, _, _, _, rfl, rfl, rfl⟩
        · refine ⟨_, _, _, _, _, _, rfl, rfl, ?_⟩
          split
          · rfl
          · exact itemsR_ro _
    · exact ⟨_, _, _, _, _, _, rfl, rfl, rfl⟩

/-- The reference's tokens, in memory. -/
def TkAt (H : Heap) (v : V) (O : List Tk) : Prop := (O = [] ∧ v = .sl true [] 0) ∨ ∃ b g, v = .view b g 0 O.length ∧ b < H.length ∧ H[b]? = some (.cells g 5 true (O.map Tk.R).flatten)
theorem tkR_len (O : List Tk) : (O.map Tk.R).flatten.length = O.length * 5 := by
  rw [flat_len _ (fun t ht => by obtain ⟨c, _, rfl⟩ := List.mem_map.1 ht; rfl), List.length_map]
theorem TkAt.push {H : Heap} {v : V} {O : List Tk} (h : TkAt H v O) (x : HObj) : TkAt (H ++ [x]) v O := by
  rcases h with h | ⟨b, g, h1, h2, h3⟩
  · exact .inl h
  · exact .inr ⟨b, g, h1, by simp; omega, by rw [get_push h2]; exact h3⟩
theorem append_tk {H : Heap} {v : V} {O : List Tk} (h : TkAt H v O) (t : Tk) (ht : (Tk.R t).all V.isCell = true) (hl : O.length ≤ 100000) : ∃ v' H', appendV 5 80 H v (.sl true (Tk.R t) 1) = some (v', H') ∧ TkAt H' v' (O ++ [t]) := by
  have hi : (Tk.R t).length = 5 := rfl
  rcases h with ⟨rfl, rfl⟩ | ⟨b, g, rfl, hb, hHb⟩
  · exact ⟨.view H.length 0 0 1, H ++ [.cells 0 5 true (Tk.R t)], by simp [appendV, srcCells, readSl, hi], .inr ⟨H.length, 0, rfl, by simp, by simp⟩⟩
  · have hil := tkR_len O
    have q1 : O.length * 5 ≤ (O.map Tk.R).flatten.length := by omega
    have q2 : (O.length + 1) * 80 ≤ 140737488355328 := by omega
    have q3 : O.length + 1 ≤ 9223372036854775807 := by omega
    have q4 : (O.map Tk.R).flatten.take (O.length * 5) = (O.map Tk.R).flatten := by rw [← hil, List.take_length]
    refine ⟨.view b (g + 1) 0 (O.length + 1), H.set b (.cells (g + 1) 5 true ((O.map Tk.R).flatten ++ Tk.R t)), ?_, .inr ⟨b, g + 1, by simp, by simpa using hb, by simp [hb]⟩⟩
    generalize (O.map Tk.R).flatten = F at *
    generalize Tk.R t = T at *
    simp [appendV, srcCells, readSl, hHb, hi, ht, q1, q2, q3, q4]
theorem gives_tk {H : Heap} {v : V} {O : List Tk} (h : TkAt H v O) (hro : roL (O.map Tk.R).flatten = true) : Gives H (.tup [v, .int .i64 0, .int .i64 0]) (.tup [.sl false (O.map Tk.R).flatten O.length, .int .i64 0, .int .i64 0]) := by
  rcases h with ⟨rfl, rfl⟩ | ⟨b, g, rfl, hb, hHb⟩
  · exact gives_eq rfl rfl
  · have hil := tkR_len O
    have q4 : (O.map Tk.R).flatten.take (O.length * 5) = (O.map Tk.R).flatten := by rw [← hil, List.take_length]
    generalize (O.map Tk.R).flatten = F at *
    refine gives_lend 1 (v' := .tup [.sl false F O.length, .int .i64 0, .int .i64 0]) ?_ (by simp [V.ro, roL, hro]) rfl
    simp only [lend1,borL,bor,hHb,if_true,List.drop_zero,q4]

/-- What the reference hands back. -/
def allQ (s : List UInt8) : V :=
  if 1024 < s.length then .tup [.sl false [] 0, .int .i64 25, .int .i64 0]
  else match bad s with
    | some i => .tup [.sl false [] 0, .int .i64 26, .int .i64 (i : Nat)]
    | none => match lexT 0 (rn s) with
      | .error (e, j) => .tup [.sl false [] 0, .int .i64 (e : Nat), .int .i64 (j : Nat)]
      | .ok ts => .tup [.sl false (ts.map Tk.R).flatten ts.length, .int .i64 0, .int .i64 0]
def addT (O : List Tk) : Except (Nat × Nat) (List Tk) → Except (Nat × Nat) (List Tk)
  | .error x => .error x
  | .ok ts => .ok (O ++ ts)

theorem lexT_err {n i : Nat} {l : List Nat} {e j : Nat} (h : lexP n i l = .error (e, j)) : e ≠ 0 := by
  have := lexL_P n i l
  rw [h] at this
  exact lexL_err _ _ _ _ _ this

set_option maxHeartbeats 4000000 in
theorem good408 (s : List UInt8) : Good Go.Proofs.Tryz.prog 58 [.str s] (allQ s) := by
  refine good_go mix s408 (Nat.le_of_ble_eq_true rfl) fun e he => ?_
  have e0 : e 0 = .str s := he 0
  clear he
  simp only [c408,b408, oQ]
  rw [allQ]
  by_cases hlong : 1024 < s.length
  · rw [if_pos hlong]
    simp -implicitDefEqProofs (disch := omega) only [↓ZD,ZP,cnd_t,cnd_f,↓reduceIte,Env.put,stepO,lenV,binV,binInt,unV,loadV,sliceV,boundOf,convV,slstrV,if_pos,if_neg,Int.reduceToNat,Nat.reducePow,V.cells,V.isCell,V.boxable,Nat.reduceEqDiff,reduceCtorEq,reduceIte,ite_self,enterEnv,e0]
    exact gives_eq rfl rfl
  rw [if_neg hlong]
  have hg := good207 s (by omega)
  have hrl := rn_len s
  rw [runesR] at hg
  cases hbad : bad s with
  | some i =>
    rw [hbad] at hg
    simp -implicitDefEqProofs (disch := omega) only [↓ZD,ZP,cnd_t,cnd_f,↓reduceIte,Env.put,stepO,lenV,binV,binInt,unV,loadV,sliceV,boundOf,convV,slstrV,if_pos,if_neg,Int.reduceToNat,Nat.reducePow,V.cells,V.isCell,V.boxable,Nat.reduceEqDiff,reduceCtorEq,reduceIte,ite_self,enterEnv,e0]
    refine calP_ro rfl hg rfl ?_
    simp -implicitDefEqProofs (disch := omega) only [↓ZD,ZP,cnd_t,cnd_f,↓reduceIte,Env.put,stepO,lenV,binV,binInt,unV,loadV,sliceV,boundOf,convV,slstrV,if_pos,if_neg,Int.reduceToNat,Nat.reducePow,V.cells,V.isCell,V.boxable,Nat.reduceEqDiff,reduceCtorEq,reduceIte,ite_self,enterEnv,e0,bne_self_eq_false]
    exact gives_eq rfl rfl
  | none =>
    rw [hbad] at hg
    simp -implicitDefEqProofs (disch := omega) only [↓ZD,ZP,cnd_t,cnd_f,↓reduceIte,Env.put,stepO,lenV,binV,binInt,unV,loadV,sliceV,boundOf,convV,slstrV,if_pos,if_neg,Int.reduceToNat,Nat.reducePow,V.cells,V.isCell,V.boxable,Nat.reduceEqDiff,reduceCtorEq,reduceIte,ite_self,enterEnv,e0]
    refine calP_ro rfl hg (by simp [V.ro, roL, rsl, rl_ro]) ?_
    have hch := rn_ok s.length s
    have hrs : runesL s.length s = rn s := rfl
    rw [hrs] at hch
    generalize rn s = rs at *
    simp -implicitDefEqProofs (disch := omega) only [↓ZD,ZP,cnd_t,cnd_f,↓reduceIte,Env.put,stepO,lenV,binV,binInt,unV,loadV,sliceV,boundOf,convV,slstrV,if_pos,if_neg,Int.reduceToNat,Nat.reducePow,V.cells,V.isCell,V.boxable,Nat.reduceEqDiff,reduceCtorEq,reduceIte,ite_self,enterEnv,e0,bne_self_eq_false,rsl]
    refine go_loop (fun m e H => ∃ (i : Nat) (O : List Tk) (v : V), i ≤ rs.length ∧ m = rs.length - i ∧ TkAt H v O ∧ O.length ≤ i ∧ roL (O.map Tk.R).flatten = true ∧ lexT 0 rs = addT O (lexT i (rs.drop i)) ∧ e 5 = .sl false (rl rs) rs.length ∧ e 7 = .int .i64 (i : Nat) ∧ e 8 = v) rs.length
      ⟨0, [], _, Nat.zero_le _, rfl, .inl ⟨rfl, rfl⟩, Nat.le_refl _, rfl, ?_, ?_, ?_, ?_⟩ ?_
    · rw [List.drop_zero]; cases lexT 0 rs <;> rfl
    · simp [Env.set]
    · simp [Env.set]
    · simp [Env.set]
    clear e0
    rintro m e H ⟨i, O, v, hi, rfl, hO, hOl, hro, hlex, e5, e7, e8⟩
    have hend : ∃ (v' : V) (H' : Heap), appendV 5 80 H v (.sl true [.int .i64 0, .str [], .int .i64 (i : Nat), .sl true [] 0, .sl true [] 0] 1) = some (v', H') ∧ TkAt H' v' (O ++ [endT i]) := append_tk hO (endT i) rfl (by omega)
    have hro2 : roL ((O ++ [endT i]).map Tk.R).flatten = true := by
      rw [List.map_append, List.flatten_append, roL_app, hro]; rfl
    rcases Nat.lt_or_ge i rs.length with hlt | hge
    · have hdc := List.drop_eq_getElem_cons hlt
      have hat : (rl rs)[i]? = some (.int .i32 (rs[i] : Nat)) := rl_get (List.getElem?_eq_getElem hlt)
      rw [hdc] at hlex
      have hnext := good421 rs i rs[i] (rs.drop (i + 1)) hdc (by omega) hch
      generalize rs[i] = c at *
      by_cases hcom : c = 9053
      · subst hcom
        rw [lexT_com] at hlex
        rw [hlex]
        obtain ⟨v', H', happ, hO'⟩ := hend
        simp -implicitDefEqProofs (disch := omega) only [↓ZD,ZP,cnd_t,cnd_f,↓reduceIte,Env.put,stepO,lenV,binV,binInt,unV,loadV,sliceV,boundOf,convV,slstrV,if_pos,if_neg,Int.reduceToNat,Nat.reducePow,V.cells,V.isCell,V.boxable,Nat.reduceEqDiff,reduceCtorEq,reduceIte,ite_self,enterEnv,e5,e7,e8,hat,fillL,evParts,splice,List.take_zero,List.take_succ_cons,List.drop_succ_cons,List.drop_zero,List.drop_nil,happ]
        exact gives_tk hO' hro2
      · cases hbl : blankC c with
        | true =>
          rw [lexT_blank hbl] at hlex
          have hc2 : c = 32 ∨ (c ≠ 32 ∧ c = 9) := by simp [blankC] at hbl; omega
          rcases hc2 with hc2 | ⟨hc2, hc3⟩
          · simp -implicitDefEqProofs (disch := omega) only [↓ZD,ZP,cnd_t,cnd_f,↓reduceIte,Env.put,stepO,lenV,binV,binInt,unV,loadV,sliceV,boundOf,convV,slstrV,if_pos,if_neg,Int.reduceToNat,Nat.reducePow,V.cells,V.isCell,V.boxable,Nat.reduceEqDiff,reduceCtorEq,reduceIte,ite_self,enterEnv,e5,e7,e8,hat,hc2]
            exact ⟨_, by omega, i + 1, O, v, by omega, rfl, hO, by omega, hro, hlex, rfl, rfl⟩
          · simp -implicitDefEqProofs (disch := omega) only [↓ZD,ZP,cnd_t,cnd_f,↓reduceIte,Env.put,stepO,lenV,binV,binInt,unV,loadV,sliceV,boundOf,convV,slstrV,if_pos,if_neg,Int.reduceToNat,Nat.reducePow,V.cells,V.isCell,V.boxable,Nat.reduceEqDiff,reduceCtorEq,reduceIte,ite_self,enterEnv,e5,e7,e8,hat,hc3]
            exact ⟨_, by omega, i + 1, O, v, by omega, rfl, hO, by omega, hro, hlex, rfl, rfl⟩
        | false =>
          have hc2 : c ≠ 32 ∧ c ≠ 9 := by simp [blankC] at hbl; omega
          obtain ⟨hc2, hc3⟩ := hc2
          rw [lexT_tok hbl hcom] at hlex
          cases htok : tokenS (c :: rs.drop (i + 1)) with
          | err er =>
            rw [htok] at hlex
            rw [nextR_err htok] at hnext
            simp only [addT] at hlex
            rw [hlex]
            have her : er ≠ 0 := by
              have : lexP (rs.length + 1) 0 rs = .error (er, i) := hlex
              exact lexT_err this
            simp -implicitDefEqProofs (disch := omega) only [↓ZD,ZP,cnd_t,cnd_f,↓reduceIte,Env.put,stepO,lenV,binV,binInt,unV,loadV,sliceV,boundOf,convV,slstrV,if_pos,if_neg,Int.reduceToNat,Nat.reducePow,V.cells,V.isCell,V.boxable,Nat.reduceEqDiff,reduceCtorEq,reduceIte,ite_self,enterEnv,e5,e7,e8,hat]
            refine calP_ro (by simp [roL, V.ro, rl_ro]) hnext rfl ?_
            simp -implicitDefEqProofs (disch := (first | omega | (simp only [List.length_append,List.length_set,List.length_cons,List.length_nil]; try omega; done))) only [↓ZD,ZP,ZL,cnd_t,cnd_f,↓reduceIte,Env.put,stepO,lenV,binV,binInt,unV,loadV,sliceV,boundOf,convV,slstrV,if_pos,if_neg,Int.reduceToNat,Nat.reducePow,V.cells,V.isCell,V.boxable,Nat.reduceEqDiff,reduceCtorEq,reduceIte,ite_self,enterEnv,e5,e7,e8,hat,zeroR,fillL,evParts,splice,List.take_zero,List.take_succ_cons,List.drop_succ_cons,List.drop_zero,List.drop_nil]
            exact gives_eq rfl rfl
          | ok kind k a1 a2 =>
            rw [htok] at hlex
            rw [nextR_ok htok] at hnext
            have hk := tokenS_n htok
            obtain ⟨x1, l1, n1, x2, l2, n2, har, r1, r2⟩ := arrS_sl (c :: rs.drop (i + 1))
            have hdl : (c :: rs.drop (i + 1)).length = rs.length - i := by rw [List.length_cons, List.length_drop]; omega
            rw [hdl] at hk
            have hdr : (c :: rs.drop (i + 1)).drop k = rs.drop (i + k) := by rw [← hdc, List.drop_drop]
            simp only [hdr,har] at hlex
            rw [har] at hnext
            generalize (c :: rs.drop (i + 1)).take k = w at *
            have hpush := hO.push (.cells 0 0 true [.int .i64 (kind : Nat), .str (encs w), .int .i64 (i : Nat), .sl x1 l1 n1, .sl x2 l2 n2])
            obtain ⟨v', H', happ, hO'⟩ := append_tk hpush ⟨kind, encs w, i, a1, a2, .sl x1 l1 n1, .sl x2 l2 n2⟩ rfl (by omega)
            simp only [Tk.R] at happ
            have hro' : roL ((O ++ [(⟨kind, encs w, i, a1, a2, .sl x1 l1 n1, .sl x2 l2 n2⟩ : Tk)]).map Tk.R).flatten = true := by
              rw [List.map_append, List.flatten_append, roL_app, hro]
              simp [Tk.R, roL, V.ro, r1, r2]
            have hlex' : lexT 0 rs = addT (O ++ [(⟨kind, encs w, i, a1, a2, .sl x1 l1 n1, .sl x2 l2 n2⟩ : Tk)]) (lexT (i + k) (rs.drop (i + k))) := by
              rw [hlex]
              cases lexT (i + k) (rs.drop (i + k)) with
              | error x => rfl
              | ok ts => simp [addT]
            simp -implicitDefEqProofs (disch := omega) only [↓ZD,ZP,cnd_t,cnd_f,↓reduceIte,Env.put,stepO,lenV,binV,binInt,unV,loadV,sliceV,boundOf,convV,slstrV,if_pos,if_neg,Int.reduceToNat,Nat.reducePow,V.cells,V.isCell,V.boxable,Nat.reduceEqDiff,reduceCtorEq,reduceIte,ite_self,enterEnv,e5,e7,e8,hat]
            refine calP_ro (by simp [roL, V.ro, rl_ro]) hnext (by simp [V.ro, roL, r1, r2]) ?_
            simp -implicitDefEqProofs (disch := (first | omega | (simp only [List.length_append,List.length_set,List.length_cons,List.length_nil]; try omega; done))) only [↓ZD,ZP,ZL,cnd_t,cnd_f,↓reduceIte,Env.put,stepO,lenV,binV,binInt,unV,loadV,sliceV,boundOf,convV,slstrV,if_pos,if_neg,Int.reduceToNat,Nat.reducePow,V.cells,V.isCell,V.boxable,Nat.reduceEqDiff,reduceCtorEq,reduceIte,ite_self,enterEnv,e5,e7,e8,hat,fillL,evParts,splice,List.take_zero,List.take_succ_cons,List.drop_succ_cons,List.drop_zero,List.drop_nil,loadV,happ]
            exact ⟨_, by omega, i + k, _, v', by omega, rfl, hO', by simp; omega, hro', hlex', rfl, rfl⟩
    · have hnl : ¬ i < rs.length := by omega
      rw [List.drop_eq_nil_of_le hge, lexT_nil] at hlex
      rw [hlex]
      obtain ⟨v', H', happ, hO'⟩ := hend
      simp -implicitDefEqProofs (disch := omega) only [↓ZD,ZP,cnd_t,cnd_f,↓reduceIte,Env.put,stepO,lenV,binV,binInt,unV,loadV,sliceV,boundOf,convV,slstrV,if_pos,if_neg,Int.reduceToNat,Nat.reducePow,V.cells,V.isCell,V.boxable,Nat.reduceEqDiff,reduceCtorEq,reduceIte,ite_self,enterEnv,e5,e7,e8,fillL,evParts,splice,List.take_zero,List.take_succ_cons,List.drop_succ_cons,List.drop_zero,List.drop_nil,happ]
      exact gives_tk hO' hro2
end Fe
open Go Go.Proofs
namespace Fe
theorem tokenS_kind2 {l : List Nat} {kind n : Nat} {a1 a2 : V} (h : tokenS l = .ok kind n a1 a2) : 1 ≤ kind ∧ kind < 7 := by
  cases l with
  | nil => cases h
  | cons c r =>
    rw [tokenS] at h
    unfold numTok textTok nameTok at h
    repeat' split at h
    all_goals first | (cases h; done) | (simp only [TR.ok.injEq] at h; omega)

/-- A token's arrays are the same by both. -/
def Tk.OK (t : Tk) : Prop := t.kind < 7 ∧ ∃ (ea eb ea' eb' : Bool) (sh : List Nat) (prs : List (List V × List V)), sh.length ≤ 1000 ∧ prs.length ≤ 100000 ∧ (∀ p ∈ prs, SIt p) ∧
  V.agg [t.a1, t.a2] = arrA ea eb sh prs ∧ V.agg [t.b1, t.b2] = arrB ea' eb' sh prs ∧ roL [t.a1, t.a2] = true ∧ roL [t.b1, t.b2] = true
theorem endT_ok (i : Nat) : (endT i).OK := ⟨(show 0 < 7 by decide), true, true, true, true, [], [], by simp, by simp, fun p hp => (List.not_mem_nil hp).elim, rfl, rfl, rfl, rfl⟩

theorem tok_same {c : Nat} {r : List Nat} {kind k : Nat} {a1 a2 : V} (hl : (c :: r).length ≤ 1024) (hch : ∀ x ∈ c :: r, charOK x) (h : tokenS (c :: r) = .ok kind k a1 a2) (i : Nat) (t : List UInt8) : (⟨kind, t, i, a1, a2, (arrS (c :: r)).1, (arrS (c :: r)).2⟩ : Tk).OK := by
  refine ⟨(tokenS_kind2 h).2, ?_⟩
  have nn : (nilV, nilV) = (arrS (c :: r)) → a1 = nilV → a2 = nilV → ∃ (ea eb ea' eb' : Bool) (sh : List Nat) (prs : List (List V × List V)), sh.length ≤ 1000 ∧ prs.length ≤ 100000 ∧ (∀ p ∈ prs, SIt p) ∧
      V.agg [a1, a2] = arrA ea eb sh prs ∧ V.agg [(arrS (c :: r)).1, (arrS (c :: r)).2] = arrB ea' eb' sh prs ∧ roL [a1, a2] = true ∧ roL [(arrS (c :: r)).1, (arrS (c :: r)).2] = true := by
    intro h1 h2 h3
    rw [← h1, h2, h3]
    exact ⟨true, true, true, true, [], [], by simp, by simp, fun p hp => (List.not_mem_nil hp).elim, rfl, rfl, rfl, rfl⟩
  rw [tokenS] at h
  split at h
  · rename_i hc
    have har : arrS (c :: r) = (nilV, .sl true (itemRV (ratP (encs (c :: r.takeWhile numC))).1) 1) := by rw [arrS, if_pos hc]
    rw [har]
    rw [numTok] at h
    split at h
    · rename_i hz
      simp only [TR.ok.injEq] at h
      obtain ⟨_, _, rfl, rfl⟩ := h
      obtain ⟨b, x, y, m, hr⟩ := ratP_agg (encs (c :: r.takeWhile numC))
      rw [hr] at hz ⊢
      simp only at hz
      subst hz
      obtain ⟨b', x', y', hv, hn⟩ := ratP_ok hr
      rw [hv]
      have h1 := hn.1
      have h2 := hn.2.1
      refine ⟨false, false, true, true, [], [(itemOf (rv b' x' y'), itemRV (rv b' x' y'))], by simp, by simp, ?_, rfl, rfl, by simp [roL, V.ro, itemOf, rv, nf_ro], by simp [roL, V.ro, itemRV, rv, nf_ro, nilV]⟩
      intro p hp
      rw [List.mem_singleton.1 hp]
      exact ⟨1, 0, b', false, false, false, false, false, true, lim x', lim y', by omega, by omega, rfl, rfl⟩
    · cases h
  rename_i hc1
  split at h
  · rename_i hc
    rw [textTok] at h
    cases hte : textS r with
    | none => rw [hte] at h; cases h
    | some p =>
      obtain ⟨out, m⟩ := p
      rw [hte] at h
      have hb := textS_bound _ _ (Nat.le_refl _) out m hte
      have hok : ∀ x ∈ out, charOK x := fun x hx => hch x (List.mem_cons_of_mem _ (hb.2.2 x hx))
      have hrn := rn_encs out hok
      simp only [List.length_cons] at hl
      have har : arrS (c :: r) = if out.length = 1 then (nilV, .sl true (itemC' (out.headD 0)) 1) else (.sl false [.int .i64 (out.length : Nat)] 1, .sl false (if out = [] then itemC' 32 else (out.map itemC').flatten) (if out = [] then 1 else out.length)) := by
        rw [arrS, if_neg hc1, if_pos hc, hte]
      rw [har]
      have hsi : ∀ c : Nat, SIt (itemC c, itemC' c) := fun c => ⟨2, c, false, false, false, false, true, true, true, [], [], by simp, by simp, rfl, rfl⟩
      simp only [hrn] at h
      split at h
      · rename_i h1
        simp only [TR.ok.injEq] at h
        obtain ⟨_, _, rfl, rfl⟩ := h
        rw [if_pos h1]
        refine ⟨false, false, true, true, [], [(itemC (out.headD 0), itemC' (out.headD 0))], by simp, by simp, ?_, rfl, rfl, rfl, rfl⟩
        intro p hp
        rw [List.mem_singleton.1 hp]
        exact hsi _
      · rename_i h1
        simp only [TR.ok.injEq] at h
        obtain ⟨_, _, rfl, rfl⟩ := h
        rw [if_neg h1]
        by_cases h0 : out = []
        · subst h0
          refine ⟨false, false, false, false, [0], [(itemC 32, itemC' 32)], by simp, by simp, ?_, rfl, rfl, rfl, rfl⟩
          intro p hp
          rw [List.mem_singleton.1 hp]
          exact hsi _
        · rw [if_neg h0, if_neg h0, textItems, if_neg h0]
          refine ⟨false, false, false, false, [out.length], out.map fun c => (itemC c, itemC' c), by simp, by simp; omega, ?_, ?_, ?_, ?_, ?_⟩
          · intro p hp
            obtain ⟨c, _, rfl⟩ := List.mem_map.1 hp
            exact hsi c
          · simp [arrA, shl', List.map_map, Function.comp_def]
          · simp [arrB, shl', List.map_map, Function.comp_def]
          · simp [roL, V.ro, items_ro]
          · simp [roL, V.ro, itemsR_ro]
  rename_i hc2
  have har : arrS (c :: r) = (nilV, nilV) := by rw [arrS, if_neg hc1, if_neg hc2]
  split at h
  · rw [nameTok] at h
    split at h
    · cases h
    · simp only [TR.ok.injEq] at h
      exact nn har.symm h.2.2.1.symm h.2.2.2.symm
  split at h
  · simp only [TR.ok.injEq] at h; exact nn har.symm h.2.2.1.symm h.2.2.2.symm
  split at h
  · simp only [TR.ok.injEq] at h; exact nn har.symm h.2.2.1.symm h.2.2.2.symm
  split at h
  · simp only [TR.ok.injEq] at h; exact nn har.symm h.2.2.1.symm h.2.2.2.symm
  · cases h

theorem lexP_ok : ∀ (n i : Nat) (l : List Nat) (ts : List Tk), l.length ≤ 1024 → (∀ c ∈ l, charOK c) → lexP n i l = .ok ts → (∀ t ∈ ts, t.OK) ∧ ts.length ≤ l.length + 1
  | 0, i, l, ts, _, _, h => by cases h; exact ⟨fun t ht => (List.not_mem_nil ht).elim, Nat.zero_le _⟩
  | n + 1, i, l, ts, hl, hch, h => by
    rw [lexP] at h
    have hdl := dw_len (p := blankC) l
    have fin : (∀ t ∈ [endT (i + (l.takeWhile blankC).length)], t.OK) ∧ [endT (i + (l.takeWhile blankC).length)].length ≤ l.length + 1 :=
      ⟨fun t ht => by rw [List.mem_singleton.1 ht]; exact endT_ok _, by simp⟩
    cases hdw : l.dropWhile blankC with
    | nil => rw [hdw] at h; cases h; exact fin
    | cons c r =>
      rw [hdw] at h hdl
      simp only at h
      by_cases hc : c = 9053
      · rw [if_pos hc] at h; cases h; exact fin
      · rw [if_neg hc] at h
        have hch' : ∀ x ∈ c :: r, charOK x := fun x hx => hch x (by
          have : l.takeWhile blankC ++ l.dropWhile blankC = l := List.takeWhile_append_dropWhile
          rw [← this, hdw]; exact List.mem_append_right _ hx)
        cases htok : tokenS (c :: r) with
        | err er => rw [htok] at h; cases h
        | ok kind k a1 a2 =>
          rw [htok] at h
          simp only at h
          have hk := tokenS_n htok
          have hd : ((c :: r).drop k).length = (c :: r).length - k := List.length_drop
          cases hrec : lexP n (i + (l.takeWhile blankC).length + k) ((c :: r).drop k) with
          | error x => rw [hrec] at h; cases h
          | ok ts1 =>
            rw [hrec] at h
            cases h
            obtain ⟨h1, h2⟩ := lexP_ok n _ _ ts1 (by omega) (fun x hx => hch' x (List.mem_of_mem_drop hx)) hrec
            refine ⟨fun t ht => ?_, by simp only [List.length_cons] at *; omega⟩
            rcases List.mem_cons.1 ht with rfl | ht
            · exact tok_same (by omega) hch' htok _ _
            · exact h1 t ht

theorem ok_ro : ∀ ts : List Tk, (∀ t ∈ ts, t.OK) → roL (ts.map Tk.L).flatten = true ∧ roL (ts.map Tk.R).flatten = true
  | [], _ => ⟨rfl, rfl⟩
  | t :: ts, h => by
    obtain ⟨h1, h2⟩ := ok_ro ts fun x hx => h x (List.mem_cons_of_mem _ hx)
    obtain ⟨_, _, _, _, _, _, _, _, _, _, _, _, hra, hrb⟩ := h t (List.mem_cons_self ..)
    simp only [List.map_cons,List.flatten_cons,roL_app,h1,h2,Bool.and_true]
    constructor
    · simp only [Tk.L,tokC,roL,V.ro,Bool.true_and] at *; exact hra
    · simp only [Tk.R,roL,V.ro,Bool.true_and] at *; exact hrb

/-- What both hand back. -/
theorem both_cases (s : List UInt8) : (∃ er j : Nat, er ≠ 0 ∧ allR s = .tup [.sl false [] 0, .int .i64 (er : Nat), .int .i64 (j : Nat)] ∧ allQ s = .tup [.sl false [] 0, .int .i64 (er : Nat), .int .i64 (j : Nat)]) ∨
    (∃ ts : List Tk, s.length ≤ 1024 ∧ bad s = none ∧ lexP ((rn s).length + 1) 0 (rn s) = .ok ts ∧ (∀ t ∈ ts, t.OK) ∧ ts.length ≤ 1025 ∧ allR s = .tup [.sl false (ts.map Tk.L).flatten ts.length, .int .i64 0, .int .i64 0] ∧ allQ s = .tup [.sl false (ts.map Tk.R).flatten ts.length, .int .i64 0, .int .i64 0]) := by
  unfold allR allQ
  by_cases hl : 1024 < s.length
  · rw [if_pos hl, if_pos hl]
    exact .inl ⟨25, 0, by decide, rfl, rfl⟩
  rw [if_neg hl, if_neg hl]
  cases hb : bad s with
  | some i => exact .inl ⟨26, i, by decide, rfl, rfl⟩
  | none =>
    have hL := lexL_P ((rn s).length + 1) 0 (rn s)
    have hT : lexT 0 (rn s) = lexP ((rn s).length + 1) 0 (rn s) := rfl
    simp only [hT,hL]
    cases hP : lexP ((rn s).length + 1) 0 (rn s) with
    | error x =>
      obtain ⟨e, j⟩ := x
      exact .inl ⟨e, j, lexT_err hP, rfl, rfl⟩
    | ok ts =>
      have hrl := rn_len s
      obtain ⟨h1, h2⟩ := lexP_ok _ 0 (rn s) ts (by omega) (rn_ok _ _) hP
      refine .inr ⟨ts, by omega, by first | trivial | rfl, by first | rfl | exact hP, h1, by omega, ?_, rfl⟩
      simp only [List.length_map]

end Fe
open Go Go.Proofs
namespace Fe

/-! ### Which texts are names -/
theorem lexP_nil (n i : Nat) : lexP (n + 1) i [] = .ok [endT i] := by
  rw [lexP]
  rfl

/-- Where the first token is the whole text, none but the end follows. -/
theorem first_whole {s : List UInt8} {ts : List Tk} (h : lexP ((rn s).length + 1) 0 (rn s) = .ok ts) :
    ∃ t r, ts = t :: r ∧ (t.kind = 3 → t.text = s → r.length = 1) := by
  have hok := rn_ok s.length s
  have hok' : ∀ c ∈ rn s, charOK c := hok
  rw [lexP] at h
  have htd : (rn s).takeWhile blankC ++ (rn s).dropWhile blankC = rn s := List.takeWhile_append_dropWhile
  have fin : ∀ {i : Nat}, (Except.ok [endT i] : Except (Nat × Nat) (List Tk)) = .ok ts → ∃ t r, ts = t :: r ∧ (t.kind = 3 → t.text = s → r.length = 1) := by
    intro i h
    cases h
    exact ⟨_, _, rfl, fun h => by cases h⟩
  cases hdw : (rn s).dropWhile blankC with
  | nil => rw [hdw] at h; exact fin h
  | cons c r =>
    rw [hdw] at h htd
    simp only at h
    by_cases hc : c = 9053
    · rw [if_pos hc] at h; exact fin h
    · rw [if_neg hc] at h
      cases htok : tokenS (c :: r) with
      | err er => rw [htok] at h; cases h
      | ok kind k a1 a2 =>
        rw [htok] at h
        simp only at h
        cases hrec : lexP (rn s).length (0 + ((rn s).takeWhile blankC).length + k) ((c :: r).drop k) with
        | error x => rw [hrec] at h; cases h
        | ok ts1 =>
          rw [hrec] at h
          cases h
          refine ⟨_, _, rfl, fun _ htx => ?_⟩
          simp only at htx
          have hch : ∀ x ∈ (c :: r).take k, charOK x := fun x hx => hok' x (by
            rw [← htd]; exact List.mem_append_right _ (List.mem_of_mem_take hx))
          have h1 : rn s = (c :: r).take k := by
            have := rn_encs _ hch
            rw [htx] at this
            exact this
          have h2 : (rn s).length = ((rn s).takeWhile blankC).length + (c :: r).length := by
            conv => lhs; rw [← htd]
            rw [List.length_append]
          have h3 : ((c :: r).take k).length = min k (c :: r).length := List.length_take
          rw [← h1] at h3
          have h4 : (c :: r).drop k = [] := by
            rw [List.drop_eq_nil_iff]
            omega
          rw [h4] at hrec
          have h5 : (rn s).length = r.length + 1 := by
            simp only [List.length_cons] at h2 h3
            omega
          rw [h5, lexP_nil] at hrec
          cases hrec
          rfl
end Fe
