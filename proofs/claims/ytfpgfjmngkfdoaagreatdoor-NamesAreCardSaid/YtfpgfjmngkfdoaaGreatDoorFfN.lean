/-
  Characters as bytes, and back; contracts: a character's bytes by Go's library; contracts: a text's characters by the reference. No condition.
-/
import Derived.Test.YtfpgfjmngkfdoaaGreatDoorFfK
set_option linter.unusedSimpArgs false
set_option linter.unusedVariables false
open Go Go.Proofs
namespace Fe

/-! ### Characters, written and read again -/
theorem toNat_of {n : Nat} (h : n < 256) : (UInt8.ofNat n).toNat = n := by
  rw [UInt8.toNat_ofNat']; exact Nat.mod_eq_of_lt h

theorem decL1 (a0 : UInt8) (X : List UInt8) (n : Nat) (hn : a0.toNat = n) (h : n < 128) : decL (a0 :: X) = (n, 1) := by
  unfold decL
  simp only [List.getD_cons_zero,hn]
  rw [if_pos h]

theorem cont_t {s : List UInt8} {k n : Nat} {b : UInt8} (hs : s.getD k 0 = b) (hn : b.toNat = n) (hl : k < s.length) (h : n / 64 = 2) : (decide (k < s.length) && (s.getD k 0).toNat / 64 == 2) = true := by
  rw [hs, hn, h, decide_eq_true hl]; rfl

theorem decL2 (a0 a1 : UInt8) (X : List UInt8) (n0 n1 c : Nat) (h0 : a0.toNat = n0) (h1 : a1.toNat = n1) (q1 : ¬ n0 < 128) (q2 : n0 / 32 = 6) (q3 : n1 / 64 = 2) (q4 : n0 % 32 * 64 + n1 % 64 = c) (q5 : 128 ≤ c) :
    decL (a0 :: a1 :: X) = (c, 2) := by
  have c1 := cont_t (s := a0 :: a1 :: X) (k := 1) rfl h1 (by simp) q3
  have g0 : ((a0 :: a1 :: X).getD 0 0).toNat = n0 := h0
  have g1 : ((a0 :: a1 :: X).getD 1 0).toNat = n1 := h1
  unfold decL
  simp only [c1,g0]
  rw [if_neg q1, if_pos (by rw [q2]; rfl)]
  simp only [g1,q4]
  rw [if_pos q5]

theorem decL3 (a0 a1 a2 : UInt8) (X : List UInt8) (n0 n1 n2 c : Nat) (h0 : a0.toNat = n0) (h1 : a1.toNat = n1) (h2 : a2.toNat = n2) (q1 : ¬ n0 < 128) (q2 : ¬ n0 / 32 = 6) (q2' : n0 / 16 = 14) (q3 : n1 / 64 = 2) (q3' : n2 / 64 = 2)
    (q4 : n0 % 16 * 4096 + n1 % 64 * 64 + n2 % 64 = c) (q5 : 2048 ≤ c) (q6 : Utf8.valid (c : Int) = true) :
    decL (a0 :: a1 :: a2 :: X) = (c, 3) := by
  have c1 := cont_t (s := a0 :: a1 :: a2 :: X) (k := 1) rfl h1 (by simp) q3
  have c2 := cont_t (s := a0 :: a1 :: a2 :: X) (k := 2) rfl h2 (by simp) q3'
  have g0 : ((a0 :: a1 :: a2 :: X).getD 0 0).toNat = n0 := h0
  have g1 : ((a0 :: a1 :: a2 :: X).getD 1 0).toNat = n1 := h1
  have g2 : ((a0 :: a1 :: a2 :: X).getD 2 0).toNat = n2 := h2
  have b1 : (n0 / 32 == 6) = false := by simpa using q2
  unfold decL
  simp only [c1,c2,g0,b1, oQ]
  rw [if_neg q1, if_neg (by decide), if_pos (by rw [q2']; rfl)]
  simp only [g1,g2,q4]
  rw [if_pos (by rw [q6, decide_eq_true q5]; rfl)]

theorem decL4 (a0 a1 a2 a3 : UInt8) (X : List UInt8) (n0 n1 n2 n3 c : Nat) (h0 : a0.toNat = n0) (h1 : a1.toNat = n1) (h2 : a2.toNat = n2) (h3 : a3.toNat = n3) (q1 : ¬ n0 < 128) (q2 : ¬ n0 / 32 = 6) (q2' : ¬ n0 / 16 = 14) (q2'' : n0 / 8 = 30)
    (q3 : n1 / 64 = 2) (q3' : n2 / 64 = 2) (q3'' : n3 / 64 = 2)
    (q4 : n0 % 8 * 262144 + n1 % 64 * 4096 + n2 % 64 * 64 + n3 % 64 = c) (q5 : 65536 ≤ c) (q6 : Utf8.valid (c : Int) = true) :
    decL (a0 :: a1 :: a2 :: a3 :: X) = (c, 4) := by
  have c1 := cont_t (s := a0 :: a1 :: a2 :: a3 :: X) (k := 1) rfl h1 (by simp) q3
  have c2 := cont_t (s := a0 :: a1 :: a2 :: a3 :: X) (k := 2) rfl h2 (by simp) q3'
  have c3 := cont_t (s := a0 :: a1 :: a2 :: a3 :: X) (k := 3) rfl h3 (by simp) q3''
  have g0 : ((a0 :: a1 :: a2 :: a3 :: X).getD 0 0).toNat = n0 := h0
  have g1 : ((a0 :: a1 :: a2 :: a3 :: X).getD 1 0).toNat = n1 := h1
  have g2 : ((a0 :: a1 :: a2 :: a3 :: X).getD 2 0).toNat = n2 := h2
  have g3 : ((a0 :: a1 :: a2 :: a3 :: X).getD 3 0).toNat = n3 := h3
  have b1 : (n0 / 32 == 6) = false := by simpa using q2
  have b2 : (n0 / 16 == 14) = false := by simpa using q2'
  unfold decL
  simp only [c1,c2,c3,g0,b1,b2, oQ]
  rw [if_neg q1, if_neg (by decide), if_neg (by decide), if_pos (by rw [q2'']; rfl)]
  simp only [g1,g2,g3,q4]
  rw [if_pos (by rw [q6, decide_eq_true q5]; rfl)]

theorem enc_valid {c : Nat} (hc : charOK c) : Utf8.valid (c : Int) = true := by
  unfold charOK at hc
  unfold Utf8.valid
  simp
  omega
theorem enc_n {c : Nat} (hc : charOK c) : (if Utf8.valid (c : Int) = true then (c : Int).toNat else Utf8.runeError) = c := by
  rw [if_pos (enc_valid hc), toNat_c]
theorem encG1 (r : Int) (n : Nat) (hn : (if Utf8.valid r = true then r.toNat else Utf8.runeError) = n) (h : n < 128) : encL r = [UInt8.ofNat n] := by
  unfold encL Utf8.encode
  rw [hn]
  dsimp only
  rw [if_pos h]
theorem encL1 {c : Nat} (hc : charOK c) (h : c < 128) : encL (c : Int) = [UInt8.ofNat c] :=
  encG1 (c : Int) c (enc_n hc) h
theorem encG2 (r : Int) (n : Nat) (hn : (if Utf8.valid r = true then r.toNat else Utf8.runeError) = n) (h1 : ¬ n < 128) (h : n < 2048) : encL r = [UInt8.ofNat (192 + n / 64), UInt8.ofNat (128 + n % 64)] := by
  unfold encL Utf8.encode
  rw [hn]
  dsimp only
  rw [if_neg h1, if_pos h]
theorem encL2 {c : Nat} (hc : charOK c) (h1 : ¬ c < 128) (h : c < 2048) : encL (c : Int) = [UInt8.ofNat (192 + c / 64), UInt8.ofNat (128 + c % 64)] :=
  encG2 (c : Int) c (enc_n hc) h1 h
theorem encG3 (r : Int) (n : Nat) (hn : (if Utf8.valid r = true then r.toNat else Utf8.runeError) = n) (h1 : ¬ n < 128) (h2 : ¬ n < 2048) (h : n < 65536) : encL r = [UInt8.ofNat (224 + n / 4096), UInt8.ofNat (128 + n / 64 % 64), UInt8.ofNat (128 + n % 64)] := by
  unfold encL Utf8.encode
  rw [hn]
  dsimp only
  rw [if_neg h1, if_neg h2, if_pos h]
theorem encL3 {c : Nat} (hc : charOK c) (h1 : ¬ c < 128) (h2 : ¬ c < 2048) (h : c < 65536) : encL (c : Int) = [UInt8.ofNat (224 + c / 4096), UInt8.ofNat (128 + c / 64 % 64), UInt8.ofNat (128 + c % 64)] :=
  encG3 (c : Int) c (enc_n hc) h1 h2 h
theorem encG4 (r : Int) (n : Nat) (hn : (if Utf8.valid r = true then r.toNat else Utf8.runeError) = n) (h1 : ¬ n < 128) (h2 : ¬ n < 2048) (h : ¬ n < 65536) : encL r = [UInt8.ofNat (240 + n / 262144), UInt8.ofNat (128 + n / 4096 % 64), UInt8.ofNat (128 + n / 64 % 64), UInt8.ofNat (128 + n % 64)] := by
  unfold encL Utf8.encode
  rw [hn]
  dsimp only
  rw [if_neg h1, if_neg h2, if_neg h]
theorem encL4 {c : Nat} (hc : charOK c) (h1 : ¬ c < 128) (h2 : ¬ c < 2048) (h : ¬ c < 65536) : encL (c : Int) = [UInt8.ofNat (240 + c / 262144), UInt8.ofNat (128 + c / 4096 % 64), UInt8.ofNat (128 + c / 64 % 64), UInt8.ofNat (128 + c % 64)] :=
  encG4 (c : Int) c (enc_n hc) h1 h2 h

theorem dec_enc (c : Nat) (X : List UInt8) (hc : charOK c) : decL (encL (c : Int) ++ X) = (c, (encL (c : Int)).length) := by
  have hv := enc_valid hc
  have hcc := hc
  unfold charOK at hcc
  by_cases h1 : c < 128
  · rw [encL1 hc h1]
    exact decL1 _ X c (toNat_of (by omega)) h1
  · by_cases h2 : c < 2048
    · rw [encL2 hc h1 h2]
      exact decL2 _ _ X _ _ c (toNat_of (by omega)) (toNat_of (by omega)) (by omega) (by omega) (by omega) (by omega) (by omega)
    · by_cases h3 : c < 65536
      · rw [encL3 hc h1 h2 h3]
        exact decL3 _ _ _ X _ _ _ c (toNat_of (by omega)) (toNat_of (by omega)) (toNat_of (by omega)) (by omega) (by omega) (by omega) (by omega) (by omega) (by omega) (by omega) hv
      · rw [encL4 hc h1 h2 h3]
        exact decL4 _ _ _ _ X _ _ _ _ c (toNat_of (by omega)) (toNat_of (by omega)) (toNat_of (by omega)) (toNat_of (by omega)) (by omega) (by omega) (by omega) (by omega) (by omega) (by omega) (by omega) (by omega) (by omega) hv

theorem encL_pos (c : Nat) (hc : charOK c) : encL (c : Int) ≠ [] := by
  intro h
  have h1 := dec_enc c [] hc
  rw [h] at h1
  have : (decL []).2 = 1 := rfl
  rw [List.append_nil] at h1
  rw [h1] at this
  simp at this

theorem encs_cons (c : Nat) (l : List Nat) : encs (c :: l) = encL (c : Int) ++ encs l := by simp [encs]
theorem encs_app (a b : List Nat) : encs (a ++ b) = encs a ++ encs b := by simp [encs]

theorem rn_encs : ∀ l : List Nat, (∀ c ∈ l, charOK c) → rn (encs l) = l
  | [], _ => rfl
  | c :: l, h => by
    have hc := h c (List.mem_cons_self ..)
    have hne := encL_pos c hc
    rw [encs_cons, rn_cons (by simp [hne]), dec_enc c _ hc]
    simp only [List.drop_left]
    rw [rn_encs l fun x hx => h x (List.mem_cons_of_mem _ hx)]

end Fe
open Go Go.Proofs
namespace Fe
def b221 : C :=
 (.seq
 (.region false [
 oQ 2 (.mov (.c (.int .i32 0))),
 oQ 3 (.mov (.c (.int .i64 0)))])
 (.seq
 (.region false [
 oQ 13 (.mov (.t 0)),
 oQ 14 (.len true (.t 13)),
 oQ 4 (.mov (.t 14))])
 (.seq
 (.seq
 (.region false [
 oQ 15 (.mov (.t 4)),
 oQ 16 (.bin 0 .lss (.t 15) (.c (.int .i64 1)))])
 (.cond (.t 16)
 (.seq
 (.region false [
 oQ 2 (.mov (.c (.int .i32 65533))),
 oQ 3 (.mov (.c (.int .i64 0)))])
 .ret)
 .skip))
 (.seq
 (.region false [
 oQ 17 (.mov (.t 0)),
 oQ 18 (.index (.t 17) (.c (.int .i64 0))),
 oQ 5 (.mov (.t 18))])
 (.seq
 (.region false [
 oQ 19 (.mov (.t 5)),
 oQ 20 (.aaddr 1 256 (.c (.rptr (tabV utf8F) 0)) (.t 19)),
 oQ 21 (.load false 1 (.t 20)),
 oQ 6 (.mov (.t 21))])
 (.seq
 (.seq
 (.region false [
 oQ 22 (.mov (.t 6)),
 oQ 23 (.bin 0 .geq (.t 22) (.c (.int .u8 240)))])
 (.cond (.t 23)
 (.seq
 (.region false [
 oQ 24 (.mov (.t 6)),
 oQ 25 (.conv (.int .i32) (.t 24)),
 oQ 26 (.bin 0 .shl (.t 25) (.c (.int .u64 31))),
 oQ 27 (.bin 0 .shr (.t 26) (.c (.int .u64 31))),
 oQ 7 (.mov (.t 27))])
 (.seq
 (.region false [
 oQ 28 (.mov (.t 0)),
 oQ 29 (.index (.t 28) (.c (.int .i64 0))),
 oQ 30 (.conv (.int .i32) (.t 29)),
 oQ 31 (.mov (.t 7)),
 oQ 32 (.bin 0 .andNot (.t 30) (.t 31)),
 oQ 33 (.mov (.t 7)),
 oQ 34 (.bin 0 .and (.c (.int .i32 65533)) (.t 33)),
 oQ 35 (.bin 0 .or (.t 32) (.t 34)),
 oQ 2 (.mov (.t 35)),
 oQ 3 (.mov (.c (.int .i64 1)))])
 .ret))
 .skip))
 (.seq
 (.region false [
 oQ 36 (.mov (.t 6)),
 oQ 37 (.bin 0 .and (.t 36) (.c (.int .u8 7))),
 oQ 38 (.conv (.int .i64) (.t 37)),
 oQ 8 (.mov (.t 38))])
 (.seq
 (.region false [
 oQ 39 (.mov (.t 6)),
 oQ 40 (.bin 0 .shr (.t 39) (.c (.int .u64 4))),
 oQ 41 (.aaddr 2 16 (.c (.rptr (tabV acceptL) 0)) (.t 40)),
 oQ 42 (.load true 2 (.t 41)),
 oQ 9 (.box (.c (.agg [.int .u8 0, .int .u8 0]))),
 ⟨none, .op (.store 2 (.t 9) (.t 42)), none⟩])
 (.seq
 (.seq
 (.region false [
 oQ 43 (.mov (.t 4)),
 oQ 44 (.mov (.t 8)),
 oQ 45 (.bin 0 .lss (.t 43) (.t 44))])
 (.cond (.t 45)
 (.seq
 (.region false [
 oQ 2 (.mov (.c (.int .i32 65533))),
 oQ 3 (.mov (.c (.int .i64 1)))])
 .ret)
 .skip))
 (.seq
 (.region false [
 oQ 46 (.mov (.t 0)),
 oQ 47 (.index (.t 46) (.c (.int .i64 1))),
 oQ 10 (.mov (.t 47))])
 (.seq
 (.seq
 (.region false [
 oQ 48 (.mov (.t 10)),
 oQ 49 (.faddr 0 (.t 9)),
 oQ 50 (.load false 1 (.t 49)),
 oQ 51 (.bin 0 .lss (.t 48) (.t 50)),
 oQ 52 (.mov (.t 51)),
 ⟨some 53, .op (.faddr 1 (.t 9)), some (52, false)⟩,
 ⟨some 54, .op (.load false 1 (.t 53)), some (52, false)⟩,
 ⟨some 55, .op (.mov (.t 10)), some (52, false)⟩,
 ⟨some 56, .op (.bin 0 .lss (.t 54) (.t 55)), some (52, false)⟩,
 oQ 57 (.pick (.t 52) (.c (.bool true)) (.t 56))])
 (.cond (.t 57)
 (.seq
 (.region false [
 oQ 2 (.mov (.c (.int .i32 65533))),
 oQ 3 (.mov (.c (.int .i64 1)))])
 .ret)
 .skip))
 (.seq
 (.seq
 (.region false [
 oQ 58 (.mov (.t 8)),
 oQ 59 (.bin 0 .leq (.t 58) (.c (.int .i64 2)))])
 (.cond (.t 59)
 (.seq
 (.region false [
 oQ 60 (.mov (.t 5)),
 oQ 61 (.bin 0 .and (.t 60) (.c (.int .u8 31))),
 oQ 62 (.conv (.int .i32) (.t 61)),
 oQ 63 (.bin 0 .shl (.t 62) (.c (.int .u64 6))),
 oQ 64 (.mov (.t 10)),
 oQ 65 (.bin 0 .and (.t 64) (.c (.int .u8 63))),
 oQ 66 (.conv (.int .i32) (.t 65)),
 oQ 67 (.bin 0 .or (.t 63) (.t 66)),
 oQ 2 (.mov (.t 67)),
 oQ 3 (.mov (.c (.int .i64 2)))])
 .ret)
 .skip))
 (.seq
 (.region false [
 oQ 68 (.mov (.t 0)),
 oQ 69 (.index (.t 68) (.c (.int .i64 2))),
 oQ 11 (.mov (.t 69))])
 (.seq
 (.seq
 (.region false [
 oQ 70 (.mov (.t 11)),
 oQ 71 (.bin 0 .lss (.t 70) (.c (.int .u8 128))),
 oQ 72 (.mov (.t 71)),
 ⟨some 73, .op (.mov (.t 11)), some (72, false)⟩,
 ⟨some 74, .op (.bin 0 .lss (.c (.int .u8 191)) (.t 73)), some (72, false)⟩,
 oQ 75 (.pick (.t 72) (.c (.bool true)) (.t 74))])
 (.cond (.t 75)
 (.seq
 (.region false [
 oQ 2 (.mov (.c (.int .i32 65533))),
 oQ 3 (.mov (.c (.int .i64 1)))])
 .ret)
 .skip))
 (.seq
 (.seq
 (.region false [
 oQ 76 (.mov (.t 8)),
 oQ 77 (.bin 0 .leq (.t 76) (.c (.int .i64 3)))])
 (.cond (.t 77)
 (.seq
 (.region false [
 oQ 78 (.mov (.t 5)),
 oQ 79 (.bin 0 .and (.t 78) (.c (.int .u8 15))),
 oQ 80 (.conv (.int .i32) (.t 79)),
 oQ 81 (.bin 0 .shl (.t 80) (.c (.int .u64 12))),
 oQ 82 (.mov (.t 10)),
 oQ 83 (.bin 0 .and (.t 82) (.c (.int .u8 63))),
 oQ 84 (.conv (.int .i32) (.t 83)),
 oQ 85 (.bin 0 .shl (.t 84) (.c (.int .u64 6))),
 oQ 86 (.bin 0 .or (.t 81) (.t 85)),
 oQ 87 (.mov (.t 11)),
 oQ 88 (.bin 0 .and (.t 87) (.c (.int .u8 63))),
 oQ 89 (.conv (.int .i32) (.t 88)),
 oQ 90 (.bin 0 .or (.t 86) (.t 89)),
 oQ 2 (.mov (.t 90)),
 oQ 3 (.mov (.c (.int .i64 3)))])
 .ret)
 .skip))
 (.seq
 (.region false [
 oQ 91 (.mov (.t 0)),
 oQ 92 (.index (.t 91) (.c (.int .i64 3))),
 oQ 12 (.mov (.t 92))])
 (.seq
 (.seq
 (.region false [
 oQ 93 (.mov (.t 12)),
 oQ 94 (.bin 0 .lss (.t 93) (.c (.int .u8 128))),
 oQ 95 (.mov (.t 94)),
 ⟨some 96, .op (.mov (.t 12)), some (95, false)⟩,
 ⟨some 97, .op (.bin 0 .lss (.c (.int .u8 191)) (.t 96)), some (95, false)⟩,
 oQ 98 (.pick (.t 95) (.c (.bool true)) (.t 97))])
 (.cond (.t 98)
 (.seq
 (.region false [
 oQ 2 (.mov (.c (.int .i32 65533))),
 oQ 3 (.mov (.c (.int .i64 1)))])
 .ret)
 .skip))
 (.seq
 (.region false [
 oQ 99 (.mov (.t 5)),
 oQ 100 (.bin 0 .and (.t 99) (.c (.int .u8 7))),
 oQ 101 (.conv (.int .i32) (.t 100)),
 oQ 102 (.bin 0 .shl (.t 101) (.c (.int .u64 18))),
 oQ 103 (.mov (.t 10)),
 oQ 104 (.bin 0 .and (.t 103) (.c (.int .u8 63))),
 oQ 105 (.conv (.int .i32) (.t 104)),
 oQ 106 (.bin 0 .shl (.t 105) (.c (.int .u64 12))),
 oQ 107 (.bin 0 .or (.t 102) (.t 106)),
 oQ 108 (.mov (.t 11)),
 oQ 109 (.bin 0 .and (.t 108) (.c (.int .u8 63))),
 oQ 110 (.conv (.int .i32) (.t 109)),
 oQ 111 (.bin 0 .shl (.t 110) (.c (.int .u64 6))),
 oQ 112 (.bin 0 .or (.t 107) (.t 111)),
 oQ 113 (.mov (.t 12)),
 oQ 114 (.bin 0 .and (.t 113) (.c (.int .u8 63))),
 oQ 115 (.conv (.int .i32) (.t 114)),
 oQ 116 (.bin 0 .or (.t 112) (.t 115)),
 oQ 2 (.mov (.t 116)),
 oQ 3 (.mov (.c (.int .i64 4)))])
 .ret))))))))))))))))))
def c221 : CF := ⟨117, 1, [.mov (.t 2), .mov (.t 3)], b221⟩
def b215 : C :=
 (.seq
 (.region false [
 oQ 2 (.mov (.c (.int .i32 0))),
 oQ 3 (.mov (.c (.int .i64 0)))])
 (.seq
 (.seq
 (.region false [
 oQ 4 (.mov (.t 0)),
 oQ 5 (.bin 0 .neq (.t 4) (.c (.str []))),
 oQ 6 (.mov (.t 5)),
 ⟨some 7, .op (.mov (.t 0)), some (6, true)⟩,
 ⟨some 8, .op (.index (.t 7) (.c (.int .i64 0))), some (6, true)⟩,
 ⟨some 9, .op (.bin 0 .lss (.t 8) (.c (.int .u8 128))), some (6, true)⟩,
 oQ 10 (.pick (.t 6) (.t 9) (.c (.bool false)))])
 (.cond (.t 10)
 (.seq
 (.region false [
 oQ 11 (.mov (.t 0)),
 oQ 12 (.index (.t 11) (.c (.int .i64 0))),
 oQ 13 (.conv (.int .i32) (.t 12)),
 oQ 2 (.mov (.t 13)),
 oQ 3 (.mov (.c (.int .i64 1)))])
 .ret)
 (.region false [
 oQ 15 (.mov (.t 0)),
 ⟨some 16, .call false (.c (.fn 186 [] [])) [.t 15], none⟩,
 oQ 14 (.mov (.t 16)),
 oQ 17 (.extract (.t 14) 0),
 oQ 18 (.extract (.t 14) 1),
 oQ 2 (.mov (.t 17)),
 oQ 3 (.mov (.t 18))])))
 .ret))
def c215 : CF := ⟨19, 1, [.mov (.t 2), .mov (.t 3)], b215⟩
theorem s221 : stripF Go.Proofs.Tryz.prog 186 = some c221 := by kernel_rfl
theorem s215 : stripF Go.Proofs.Tryz.prog 131 = some c215 := by kernel_rfl

/-! ### What the tables say of a first byte -/
def firstF (b : Nat) : Nat :=
  if b < 128 then 240 else if b < 194 then 241 else if b < 224 then 2 else if b = 224 then 19 else if b < 237 then 3 else if b = 237 then 35 else if b < 240 then 3
  else if b = 240 then 52 else if b < 244 then 4 else if b = 244 then 68 else 241
theorem utf8F_all : (List.range 256).all (fun b => utf8F[b]? == some (firstF b)) = true := by kernel_rfl
theorem utf8F_at {b : Nat} (h : b < 256) : (tabV utf8F)[b]? = some (.int .u8 ((firstF b : Nat) : Int)) := by
  have := List.all_eq_true.1 utf8F_all b (List.mem_range.2 h)
  have h2 : utf8F[b]? = some (firstF b) := by simpa using this
  rw [tabV, List.getElem?_map, h2]; rfl

theorem decL_at {s : List UInt8} {n b0 b1 b2 b3 : Nat} (hn : s.length = n) (h0 : (s.getD 0 0).toNat = b0) (h1 : (s.getD 1 0).toNat = b1) (h2 : (s.getD 2 0).toNat = b2) (h3 : (s.getD 3 0).toNat = b3) :
    decL s = if b0 < 128 then (b0, 1)
      else if b0 / 32 = 6 ∧ 1 < n ∧ b1 / 64 = 2 then (if b0 % 32 * 64 + b1 % 64 ≥ 128 then (b0 % 32 * 64 + b1 % 64, 2) else (65533, 1))
      else if b0 / 16 = 14 ∧ (1 < n ∧ b1 / 64 = 2) ∧ 2 < n ∧ b2 / 64 = 2 then (if b0 % 16 * 4096 + b1 % 64 * 64 + b2 % 64 ≥ 2048 ∧ (b0 % 16 * 4096 + b1 % 64 * 64 + b2 % 64 < 55296 ∨ 57344 ≤ b0 % 16 * 4096 + b1 % 64 * 64 + b2 % 64) then (b0 % 16 * 4096 + b1 % 64 * 64 + b2 % 64, 3) else (65533, 1))
      else if b0 / 8 = 30 ∧ (1 < n ∧ b1 / 64 = 2) ∧ (2 < n ∧ b2 / 64 = 2) ∧ 3 < n ∧ b3 / 64 = 2 then
        (if b0 % 8 * 262144 + b1 % 64 * 4096 + b2 % 64 * 64 + b3 % 64 ≥ 65536 ∧ b0 % 8 * 262144 + b1 % 64 * 4096 + b2 % 64 * 64 + b3 % 64 ≤ 1114111 then (b0 % 8 * 262144 + b1 % 64 * 4096 + b2 % 64 * 64 + b3 % 64, 4) else (65533, 1))
      else (65533, 1) := by
  have hv3 : ∀ c : Nat, c < 65536 → (Utf8.valid (c : Int) = true ↔ c < 55296 ∨ 57344 ≤ c) := by
    intro c hc
    simp only [Utf8.valid,Bool.or_eq_true,Bool.and_eq_true,decide_eq_true_eq]
    omega
  have hv4 : ∀ c : Nat, 65536 ≤ c → (Utf8.valid (c : Int) = true ↔ c ≤ 1114111) := by
    intro c hc
    simp only [Utf8.valid,Bool.or_eq_true,Bool.and_eq_true,decide_eq_true_eq]
    omega
  have r : Utf8.runeError = 65533 := rfl
  unfold decL
  simp only [hn,h0,h1,h2,h3,Bool.and_eq_true,decide_eq_true_eq,beq_iff_eq,r,and_assoc]
  clear hn h0 h1 h2 h3
  split
  · rfl
  · split
    · rfl
    · split
      · have := hv3 (b0 % 16 * 4096 + b1 % 64 * 64 + b2 % 64) (by omega)
        simp only [ge_iff_le,this]
      · split
        · by_cases h : 65536 ≤ b0 % 8 * 262144 + b1 % 64 * 4096 + b2 % 64 * 64 + b3 % 64
          · have := hv4 _ h
            simp only [ge_iff_le,this]
          · simp only [ge_iff_le,h,false_and]
        · rfl

/-! ### Bits -/
theorem and_c8 (a m : Nat) (ha : a < 256) (hm : m < 256) : (BitVec.ofInt IntKind.u8.bits (a : Int) &&& BitVec.ofInt IntKind.u8.bits (m : Int)).toNat = a &&& m := by
  have e : IntKind.u8.bits = 8 := rfl
  rw [ofInt_nat, ofInt_nat, BitVec.toNat_and, BitVec.toNat_ofNat, BitVec.toNat_ofNat, e, Nat.mod_eq_of_lt (by omega : a < 2 ^ 8), Nat.mod_eq_of_lt (by omega : m < 2 ^ 8)]
theorem and7_8 {a : Nat} (ha : a < 256) : (BitVec.ofInt IntKind.u8.bits (a : Int) &&& BitVec.ofInt IntKind.u8.bits 7).toNat = a % 8 := (and_c8 a 7 ha (by decide)).trans (Nat.and_two_pow_sub_one_eq_mod a 3)
theorem and15_8 {a : Nat} (ha : a < 256) : (BitVec.ofInt IntKind.u8.bits (a : Int) &&& BitVec.ofInt IntKind.u8.bits 15).toNat = a % 16 := (and_c8 a 15 ha (by decide)).trans (Nat.and_two_pow_sub_one_eq_mod a 4)
theorem and31_8 {a : Nat} (ha : a < 256) : (BitVec.ofInt IntKind.u8.bits (a : Int) &&& BitVec.ofInt IntKind.u8.bits 31).toNat = a % 32 := (and_c8 a 31 ha (by decide)).trans (Nat.and_two_pow_sub_one_eq_mod a 5)
theorem and63_8 {a : Nat} (ha : a < 256) : (BitVec.ofInt IntKind.u8.bits (a : Int) &&& BitVec.ofInt IntKind.u8.bits 63).toNat = a % 64 := (and_c8 a 63 ha (by decide)).trans (Nat.and_two_pow_sub_one_eq_mod a 6)
theorem or_ci32 {a b : Nat} (ha : a < 2147483648) (hb : b < 2147483648) : (BitVec.ofInt IntKind.i32.bits (a : Int) ||| BitVec.ofInt IntKind.i32.bits (b : Int)).toNat = a ||| b := by
  have e : IntKind.i32.bits = 32 := rfl
  rw [ofInt_nat, ofInt_nat, BitVec.toNat_or, BitVec.toNat_ofNat, BitVec.toNat_ofNat, e, Nat.mod_eq_of_lt (by omega : a < 2 ^ 32), Nat.mod_eq_of_lt (by omega : b < 2 ^ 32)]
theorem wi32c {n : Nat} (h : n < 2147483648) : IntKind.i32.wrap ((n : Nat) : Int) = (n : Int) := by rw [wr_i32]; omega
theorem firstF_cases (b : Nat) (hb : 128 ≤ b) (hlt : b < 256) : (firstF b = 241 ∧ (b < 194 ∨ 245 ≤ b)) ∨ (firstF b = 2 ∧ 194 ≤ b ∧ b < 224) ∨ (firstF b = 19 ∧ b = 224) ∨ (firstF b = 3 ∧ 225 ≤ b ∧ b < 240 ∧ b ≠ 237) ∨ (firstF b = 35 ∧ b = 237) ∨
    (firstF b = 52 ∧ b = 240) ∨ (firstF b = 4 ∧ 241 ≤ b ∧ b < 244) ∨ (firstF b = 68 ∧ b = 244) := by
  unfold firstF
  repeat' split
  all_goals omega

/-- What the row of a first byte says of the second one. -/
structure FRow (x b0 sz lo hi : Nat) : Prop where
  fx : x < 240
  fsz : x % 8 = sz
  facc : ((tabV acceptL).drop (x / 16 * 2)).take 2 = [.int .u8 ((lo : Nat) : Int), .int .u8 ((hi : Nat) : Int)]
  facl : x / 16 < 5
  fok : (sz = 2 ∧ 194 ≤ b0 ∧ b0 < 224 ∧ lo = 128 ∧ hi = 191) ∨ (sz = 3 ∧ 224 ≤ b0 ∧ b0 < 240 ∧ (b0 = 224 → lo = 160) ∧ (b0 ≠ 224 → lo = 128) ∧ (b0 = 237 → hi = 159) ∧ (b0 ≠ 237 → hi = 191)) ∨
    (sz = 4 ∧ 240 ≤ b0 ∧ b0 < 245 ∧ (b0 = 240 → lo = 144) ∧ (b0 ≠ 240 → lo = 128) ∧ (b0 = 244 → hi = 143) ∧ (b0 ≠ 244 → hi = 191))

theorem frow (b : Nat) (hb : 128 ≤ b) (hlt : b < 256) : (firstF b = 241 ∧ (b < 194 ∨ 245 ≤ b)) ∨ ∃ sz lo hi, FRow (firstF b) b sz lo hi := by
  rcases firstF_cases b hb hlt with ⟨h, h2⟩ | ⟨h, h2⟩ | ⟨h, h2⟩ | ⟨h, h2⟩ | ⟨h, h2⟩ | ⟨h, h2⟩ | ⟨h, h2⟩ | ⟨h, h2⟩
  · exact .inl ⟨h, h2⟩
  · exact .inr ⟨2, 128, 191, by rw [h]; decide, by rw [h], by rw [h]; rfl, by rw [h]; decide, .inl ⟨rfl, by omega, by omega, rfl, rfl⟩⟩
  · exact .inr ⟨3, 160, 191, by rw [h]; decide, by rw [h], by rw [h]; rfl, by rw [h]; decide, .inr (.inl ⟨rfl, by omega, by omega, by omega, by omega, by omega, by omega⟩)⟩
  · exact .inr ⟨3, 128, 191, by rw [h]; decide, by rw [h], by rw [h]; rfl, by rw [h]; decide, .inr (.inl ⟨rfl, by omega, by omega, by omega, by omega, by omega, by omega⟩)⟩
  · exact .inr ⟨3, 128, 159, by rw [h]; decide, by rw [h], by rw [h]; rfl, by rw [h]; decide, .inr (.inl ⟨rfl, by omega, by omega, by omega, by omega, by omega, by omega⟩)⟩
  · exact .inr ⟨4, 144, 191, by rw [h]; decide, by rw [h], by rw [h]; rfl, by rw [h]; decide, .inr (.inr ⟨rfl, by omega, by omega, by omega, by omega, by omega, by omega⟩)⟩
  · exact .inr ⟨4, 128, 191, by rw [h]; decide, by rw [h], by rw [h]; rfl, by rw [h]; decide, .inr (.inr ⟨rfl, by omega, by omega, by omega, by omega, by omega, by omega⟩)⟩
  · exact .inr ⟨4, 128, 143, by rw [h]; decide, by rw [h], by rw [h]; rfl, by rw [h]; decide, .inr (.inr ⟨rfl, by omega, by omega, by omega, by omega, by omega, by omega⟩)⟩

theorem shr4_8 (a : Nat) : (a : Int).fdiv (2 ^ (min 4 IntKind.u8.bits)) = ((a / 16 : Nat) : Int) := shr_c a 4
theorem shl6_32 (a : Nat) : (a : Int) * 2 ^ (min 6 IntKind.i32.bits) = ((a * 64 : Nat) : Int) := shl_c a 6
theorem shl12_32 (a : Nat) : (a : Int) * 2 ^ (min 12 IntKind.i32.bits) = ((a * 4096 : Nat) : Int) := shl_c a 12
theorem shl18_32 (a : Nat) : (a : Int) * 2 ^ (min 18 IntKind.i32.bits) = ((a * 262144 : Nat) : Int) := shl_c a 18
theorem or_m {k x y : Nat} (hx : x % 2 ^ k = 0) (hy : y < 2 ^ k) : x ||| y = x + y := by
  have h := or_high' (a := x / 2 ^ k) (b := y) (k := k) hy
  have e : x / 2 ^ k * 2 ^ k = x := by
    have := Nat.div_add_mod x (2 ^ k)
    rw [Nat.mul_comm]; omega
  rwa [e] at h
theorem or_m6 {x y : Nat} (hx : x % 64 = 0) (hy : y < 64) : x ||| y = x + y := or_m (k := 6) hx hy
theorem or_m12 {x y : Nat} (hx : x % 4096 = 0) (hy : y < 4096) : x ||| y = x + y := or_m (k := 12) hx hy
theorem or_m18 {x y : Nat} (hx : x % 262144 = 0) (hy : y < 262144) : x ||| y = x + y := or_m (k := 18) hx hy
theorem or241 (a : Nat) : (BitVec.ofInt IntKind.i32.bits
                    (IntKind.i32.wrap
                      ↑(BitVec.ofInt IntKind.i32.bits (IntKind.i32.wrap ↑a) &&&
                            ~~~BitVec.ofInt IntKind.i32.bits
                                ((IntKind.i32.wrap (IntKind.i32.wrap ((241 : Nat) : Int) * 2 ^ min 31 IntKind.i32.bits)).fdiv
                                  (2 ^ min 31 IntKind.i32.bits))).toNat) |||
                  BitVec.ofInt IntKind.i32.bits
                    (IntKind.i32.wrap
                      ↑(BitVec.ofInt IntKind.i32.bits 65533 &&&
                            BitVec.ofInt IntKind.i32.bits
                              ((IntKind.i32.wrap (IntKind.i32.wrap ((241 : Nat) : Int) * 2 ^ min 31 IntKind.i32.bits)).fdiv
                                (2 ^ min 31 IntKind.i32.bits))).toNat)).toNat = 65533 := by
  have hm : (IntKind.i32.wrap (IntKind.i32.wrap ((241 : Nat) : Int) * 2 ^ min 31 IntKind.i32.bits)).fdiv (2 ^ min 31 IntKind.i32.bits) = -1 := by decide
  rw [hm]
  have h1 : ~~~(BitVec.ofInt IntKind.i32.bits (-1)) = 0#IntKind.i32.bits := by decide
  have h2 : IntKind.i32.wrap ((BitVec.ofInt IntKind.i32.bits 65533 &&& BitVec.ofInt IntKind.i32.bits (-1)).toNat : Int) = 65533 := by decide
  rw [h1, h2, BitVec.and_zero]
  decide

theorem getD_at {s : List UInt8} {i : Nat} {c : UInt8} (h : s[i]? = some c) : (s.getD i 0).toNat = c.toNat := by simp [List.getD, h]

set_option maxHeartbeats 4000000 in
theorem good221 (s : List UInt8) (c0 : UInt8) (h0 : s[0]? = some c0) (hb : 128 ≤ c0.toNat) (hs : s.length ≤ 1000000000) : Good Go.Proofs.Tryz.prog 186 [.str s] (.tup [.int .i32 ((decL s).1 : Nat), .int .i64 ((decL s).2 : Nat)]) := by
  refine good_go mix s221 (Nat.le_of_ble_eq_true rfl) fun e he => ?_
  have e0 : e 0 = .str s := he 0
  clear he
  simp only [c221,b221, oQ]
  have hc0 : c0.toNat < 256 := c0.toNat_lt
  have ht := utf8F_at hc0
  have hn0 := getElem?_lt h0
  have hn1 : ¬ (s.length : Int) < 1 := by omega
  have hz0 := getD_at h0
  rcases frow c0.toNat hb hc0 with ⟨hx, hr⟩ | ⟨sz, lo, hi, hx, hsz, hacc, hacl, hok⟩
  · rw [hx] at ht
    simp -implicitDefEqProofs (disch := omega) only [↓ZD,ZP,cnd_t,cnd_f,↓reduceIte,Env.put,stepO,lenV,binV,binInt,unV,loadV,sliceV,boundOf,convV,slstrV,if_pos,if_neg,Int.reduceToNat,Nat.reducePow,V.cells,V.isCell,V.boxable,Nat.reduceEqDiff,reduceCtorEq,reduceIte,ite_self,enterEnv,e0,h0,ht]
    have hd : decL s = (65533, 1) := by
      rw [decL_at (n := s.length) rfl hz0 rfl rfl rfl]
      repeat' split
      all_goals first | (exfalso; omega) | rfl
    refine gives_eq rfl ?_
    rw [or241, hd]
    rfl
  · generalize firstF c0.toNat = x at hx hsz hacc hacl ht
    have hx240 : ¬ ((x : Nat) : Int) ≥ 240 := by omega
    have hal : (tabV acceptL).length = 32 := rfl
    simp -implicitDefEqProofs (disch := omega) only [↓ZD,ZP,cnd_t,cnd_f,↓reduceIte,Env.put,stepO,lenV,binV,binInt,unV,loadV,sliceV,boundOf,convV,slstrV,if_pos,if_neg,Int.reduceToNat,Nat.reducePow,V.cells,V.isCell,V.boxable,Nat.reduceEqDiff,reduceCtorEq,reduceIte,ite_self,enterEnv,e0,h0,ht,and7_8,shr4_8,hacc,hal,fillL,evParts,splice,List.take_zero,List.take_succ_cons,List.drop_succ_cons,List.drop_zero,List.drop_nil,hsz]
    have fin : ∀ (v w : Nat), decL s = (v, w) → (V.tup [.int .i32 ((decL s).1 : Nat), .int .i64 ((decL s).2 : Nat)]) = (V.tup [.int .i32 (v : Int), .int .i64 (w : Int)]).weak := by
      intro v w h; rw [h]; rfl
    by_cases hln : s.length < sz
    · simp -implicitDefEqProofs (disch := omega) only [↓ZD,ZP,cnd_t,cnd_f,↓reduceIte,Env.put,stepO,lenV,binV,binInt,unV,loadV,sliceV,boundOf,convV,slstrV,if_pos,if_neg,Int.reduceToNat,Nat.reducePow,V.cells,V.isCell,V.boxable,Nat.reduceEqDiff,reduceCtorEq,reduceIte,ite_self,enterEnv,e0]
      refine gives_eq rfl (fin 65533 1 ?_)
      rw [decL_at (n := s.length) rfl hz0 rfl rfl rfl]
      repeat' split
      all_goals first | (exfalso; omega) | rfl
    obtain ⟨c1, h1⟩ : ∃ c1, s[1]? = some c1 := ⟨_, List.getElem?_eq_getElem (by omega)⟩
    have hz1 := getD_at h1
    have hc1 : c1.toNat < 256 := c1.toNat_lt
    by_cases hlo : c1.toNat < lo
    · simp -implicitDefEqProofs (disch := omega) only [↓ZD,ZP,cnd_t,cnd_f,↓reduceIte,Env.put,stepO,lenV,binV,binInt,unV,loadV,sliceV,boundOf,convV,slstrV,if_pos,if_neg,Int.reduceToNat,Nat.reducePow,V.cells,V.isCell,V.boxable,Nat.reduceEqDiff,reduceCtorEq,reduceIte,ite_self,enterEnv,e0,h1]
      refine gives_eq rfl (fin 65533 1 ?_)
      rw [decL_at (n := s.length) rfl hz0 hz1 rfl rfl]
      repeat' split
      all_goals first | (exfalso; omega) | rfl
    by_cases hhi : hi < c1.toNat
    · simp -implicitDefEqProofs (disch := omega) only [↓ZD,ZP,cnd_t,cnd_f,↓reduceIte,Env.put,stepO,lenV,binV,binInt,unV,loadV,sliceV,boundOf,convV,slstrV,if_pos,if_neg,Int.reduceToNat,Nat.reducePow,V.cells,V.isCell,V.boxable,Nat.reduceEqDiff,reduceCtorEq,reduceIte,ite_self,enterEnv,e0,h1]
      refine gives_eq rfl (fin 65533 1 ?_)
      rw [decL_at (n := s.length) rfl hz0 hz1 rfl rfl]
      repeat' split
      all_goals first | (exfalso; omega) | rfl
    by_cases hs2 : sz = 2
    · simp -implicitDefEqProofs (disch := omega) only [↓ZD,ZP,cnd_t,cnd_f,↓reduceIte,Env.put,stepO,lenV,binV,binInt,unV,loadV,sliceV,boundOf,convV,slstrV,if_pos,if_neg,Int.reduceToNat,Nat.reducePow,V.cells,V.isCell,V.boxable,Nat.reduceEqDiff,reduceCtorEq,reduceIte,ite_self,enterEnv,e0,h0,h1,and31_8,and63_8,shl6_32,wi32c,or_ci32,or_m6]
      refine gives_eq rfl (fin _ _ ?_)
      rw [decL_at (n := s.length) rfl hz0 hz1 rfl rfl]
      repeat' split
      all_goals first | (exfalso; omega) | rfl
    obtain ⟨c2, h2⟩ : ∃ c2, s[2]? = some c2 := ⟨_, List.getElem?_eq_getElem (by omega)⟩
    have hz2 := getD_at h2
    have hc2 : c2.toNat < 256 := c2.toNat_lt
    by_cases hlo2 : c2.toNat < 128
    · simp -implicitDefEqProofs (disch := omega) only [↓ZD,ZP,cnd_t,cnd_f,↓reduceIte,Env.put,stepO,lenV,binV,binInt,unV,loadV,sliceV,boundOf,convV,slstrV,if_pos,if_neg,Int.reduceToNat,Nat.reducePow,V.cells,V.isCell,V.boxable,Nat.reduceEqDiff,reduceCtorEq,reduceIte,ite_self,enterEnv,e0,h1,h2]
      refine gives_eq rfl (fin 65533 1 ?_)
      rw [decL_at (n := s.length) rfl hz0 hz1 hz2 rfl]
      repeat' split
      all_goals first | (exfalso; omega) | rfl
    by_cases hhi2 : 191 < c2.toNat
    · simp -implicitDefEqProofs (disch := omega) only [↓ZD,ZP,cnd_t,cnd_f,↓reduceIte,Env.put,stepO,lenV,binV,binInt,unV,loadV,sliceV,boundOf,convV,slstrV,if_pos,if_neg,Int.reduceToNat,Nat.reducePow,V.cells,V.isCell,V.boxable,Nat.reduceEqDiff,reduceCtorEq,reduceIte,ite_self,enterEnv,e0,h1,h2]
      refine gives_eq rfl (fin 65533 1 ?_)
      rw [decL_at (n := s.length) rfl hz0 hz1 hz2 rfl]
      repeat' split
      all_goals first | (exfalso; omega) | rfl
    by_cases hs3 : sz = 3
    · simp -implicitDefEqProofs (disch := omega) only [↓ZD,ZP,cnd_t,cnd_f,↓reduceIte,Env.put,stepO,lenV,binV,binInt,unV,loadV,sliceV,boundOf,convV,slstrV,if_pos,if_neg,Int.reduceToNat,Nat.reducePow,V.cells,V.isCell,V.boxable,Nat.reduceEqDiff,reduceCtorEq,reduceIte,ite_self,enterEnv,e0,h0,h1,h2,and15_8,and63_8,shl6_32,shl12_32,wi32c,or_ci32,or_m6,or_m12]
      refine gives_eq rfl (fin _ _ ?_)
      rw [decL_at (n := s.length) rfl hz0 hz1 hz2 rfl]
      repeat' split
      all_goals first | (exfalso; omega) | rfl
    obtain ⟨c3, h3⟩ : ∃ c3, s[3]? = some c3 := ⟨_, List.getElem?_eq_getElem (by omega)⟩
    have hz3 := getD_at h3
    have hc3 : c3.toNat < 256 := c3.toNat_lt
    by_cases hlo3 : c3.toNat < 128
    · simp -implicitDefEqProofs (disch := omega) only [↓ZD,ZP,cnd_t,cnd_f,↓reduceIte,Env.put,stepO,lenV,binV,binInt,unV,loadV,sliceV,boundOf,convV,slstrV,if_pos,if_neg,Int.reduceToNat,Nat.reducePow,V.cells,V.isCell,V.boxable,Nat.reduceEqDiff,reduceCtorEq,reduceIte,ite_self,enterEnv,e0,h1,h2,h3]
      refine gives_eq rfl (fin 65533 1 ?_)
      rw [decL_at (n := s.length) rfl hz0 hz1 hz2 hz3]
      repeat' split
      all_goals first | (exfalso; omega) | rfl
    by_cases hhi3 : 191 < c3.toNat
    · simp -implicitDefEqProofs (disch := omega) only [↓ZD,ZP,cnd_t,cnd_f,↓reduceIte,Env.put,stepO,lenV,binV,binInt,unV,loadV,sliceV,boundOf,convV,slstrV,if_pos,if_neg,Int.reduceToNat,Nat.reducePow,V.cells,V.isCell,V.boxable,Nat.reduceEqDiff,reduceCtorEq,reduceIte,ite_self,enterEnv,e0,h1,h2,h3]
      refine gives_eq rfl (fin 65533 1 ?_)
      rw [decL_at (n := s.length) rfl hz0 hz1 hz2 hz3]
      repeat' split
      all_goals first | (exfalso; omega) | rfl
    · simp -implicitDefEqProofs (disch := omega) only [↓ZD,ZP,cnd_t,cnd_f,↓reduceIte,Env.put,stepO,lenV,binV,binInt,unV,loadV,sliceV,boundOf,convV,slstrV,if_pos,if_neg,Int.reduceToNat,Nat.reducePow,V.cells,V.isCell,V.boxable,Nat.reduceEqDiff,reduceCtorEq,reduceIte,ite_self,enterEnv,e0,h0,h1,h2,h3,and7_8,and63_8,shl6_32,shl12_32,shl18_32,wi32c,or_ci32,or_m6,or_m12,or_m18]
      refine gives_eq rfl (fin _ _ ?_)
      rw [decL_at (n := s.length) rfl hz0 hz1 hz2 hz3]
      repeat' split
      all_goals first | (exfalso; omega) | rfl

theorem good215 (s : List UInt8) (hne : s ≠ []) (hs : s.length ≤ 1000000000) : Good Go.Proofs.Tryz.prog 131 [.str s] (.tup [.int .i32 ((decL s).1 : Nat), .int .i64 ((decL s).2 : Nat)]) := by
  refine good_go mix s215 (Nat.le_of_ble_eq_true rfl) fun e he => ?_
  have e0 : e 0 = .str s := he 0
  clear he
  simp only [c215,b215, oQ]
  obtain ⟨c0, h0⟩ : ∃ c0, s[0]? = some c0 := by
    cases s with
    | nil => exact absurd rfl hne
    | cons c r => exact ⟨c, rfl⟩
  have hc0 : c0.toNat < 256 := c0.toNat_lt
  have hz0 := getD_at h0
  have hnn : (s == ([] : List UInt8)) = false := by
    cases s with
    | nil => exact absurd rfl hne
    | cons c r => rfl
  by_cases hb : c0.toNat < 128
  · have hd : decL s = (c0.toNat, 1) := by
      rw [decL_at (n := s.length) rfl hz0 rfl rfl rfl, if_pos hb]
    simp -implicitDefEqProofs (disch := omega) only [↓ZD,ZP,cnd_t,cnd_f,↓reduceIte,Env.put,stepO,lenV,binV,binInt,unV,loadV,sliceV,boundOf,convV,slstrV,if_pos,if_neg,Int.reduceToNat,Nat.reducePow,V.cells,V.isCell,V.boxable,Nat.reduceEqDiff,reduceCtorEq,reduceIte,ite_self,enterEnv,e0,h0,binStr,hnn,wi32c]
    exact gives_eq rfl (by rw [hd]; rfl)
  · simp -implicitDefEqProofs (disch := omega) only [↓ZD,ZP,cnd_t,cnd_f,↓reduceIte,Env.put,stepO,lenV,binV,binInt,unV,loadV,sliceV,boundOf,convV,slstrV,if_pos,if_neg,Int.reduceToNat,Nat.reducePow,V.cells,V.isCell,V.boxable,Nat.reduceEqDiff,reduceCtorEq,reduceIte,ite_self,enterEnv,e0,h0,binStr,hnn]
    refine calP_ro rfl (good221 s c0 h0 (by omega) hs) rfl ?_
    simp -implicitDefEqProofs (disch := omega) only [↓ZD,ZP,cnd_t,cnd_f,↓reduceIte,Env.put,stepO,lenV,binV,binInt,unV,loadV,sliceV,boundOf,convV,slstrV,if_pos,if_neg,Int.reduceToNat,Nat.reducePow,V.cells,V.isCell,V.boxable,Nat.reduceEqDiff,reduceCtorEq,reduceIte,ite_self,enterEnv,e0]
    exact gives_eq rfl rfl
end Fe
open Go Go.Proofs
namespace Fe
def b207 : C :=
 (.seq
 (.region false [
 oQ 2 (.mov (.c (.sl true [] 0))),
 oQ 3 (.mov (.c (.int .i64 0))),
 oQ 4 (.mov (.c (.int .i64 0)))])
 (.seq
 (.region false [
 oQ 5 (.mov (.c (.sl true [] 0)))])
 (.seq
 (.block 0
 (.loop
 (.seq
 (.seq
 (.region false [
 oQ 8 (.mov (.t 0)),
 oQ 9 (.len true (.t 8)),
 oQ 10 (.bin 0 .gtr (.t 9) (.c (.int .i64 0)))])
 (.cond (.t 10)
 .skip
 (.exit 0)))
 (.block 1
 (.seq
 (.region false [
 oQ 12 (.mov (.t 0)),
 ⟨some 13, .call false (.c (.fn 131 [] [])) [.t 12], none⟩,
 oQ 11 (.mov (.t 13)),
 oQ 14 (.extract (.t 11) 0),
 oQ 15 (.extract (.t 11) 1),
 oQ 6 (.mov (.t 14)),
 oQ 7 (.mov (.t 15))])
 (.seq
 (.seq
 (.region false [
 oQ 16 (.mov (.t 6)),
 oQ 17 (.bin 0 .eql (.t 16) (.c (.int .i32 65533))),
 oQ 18 (.mov (.t 17)),
 ⟨some 19, .op (.mov (.t 7)), some (18, true)⟩,
 ⟨some 20, .op (.bin 0 .eql (.t 19) (.c (.int .i64 1))), some (18, true)⟩,
 oQ 21 (.pick (.t 18) (.t 20) (.c (.bool false)))])
 (.cond (.t 21)
 (.seq
 (.region false [
 oQ 22 (.mov (.t 5)),
 oQ 23 (.len false (.t 22)),
 oQ 2 (.mov (.c (.sl true [] 0))),
 oQ 3 (.mov (.c (.int .i64 26))),
 oQ 4 (.mov (.t 23))])
 .ret)
 .skip))
 (.seq
 (.region false [
 oQ 24 (.mov (.t 5)),
 oQ 25 (.mov (.t 6)),
 oQ 26 (.mksl [.int .i32 0] 1 [(0, (1, .t 25))]),
 oQ 27 (.append 1 4 (.t 24) (.t 26)),
 oQ 5 (.mov (.t 27))])
 (.region false [
 oQ 28 (.mov (.t 0)),
 oQ 29 (.mov (.t 7)),
 oQ 30 (.slstr (.t 28) (some (.t 29)) none),
 oQ 0 (.mov (.t 30))]))))))))
 (.seq
 (.region false [
 oQ 31 (.mov (.t 5)),
 oQ 2 (.mov (.t 31)),
 oQ 3 (.mov (.c (.int .i64 0))),
 oQ 4 (.mov (.c (.int .i64 0)))])
 .ret))))
def c207 : CF := ⟨32, 1, [.mov (.t 2), .mov (.t 3), .mov (.t 4)], b207⟩
def b218 : C :=
 (.seq
 (.region false [
 oQ 4 (.mov (.c (.bool false)))])
 (.seq
 (.seq
 (.region false [
 oQ 7 (.mov (.t 1)),
 oQ 8 (.range (.t 7))])
 (.block 0
 (.loop
 (.seq
 (.region false [
 oQ 9 (.next (.t 8)),
 oQ 10 (.extract (.t 9) 0)])
 (.seq
 (.cond (.t 10)
 .skip
 (.exit 0))
 (.block 1
 (.seq
 (.region false [
 oQ 11 (.extract (.t 9) 2),
 oQ 6 (.mov (.t 11))])
 (.seq
 (.region false [
 oQ 12 (.mov (.t 6)),
 oQ 13 (.mov (.t 0)),
 oQ 14 (.bin 0 .eql (.t 12) (.t 13))])
 (.cond (.t 14)
 (.seq
 (.region false [
 oQ 4 (.mov (.c (.bool true)))])
 .ret)
 .skip)))))))))
 (.seq
 (.region false [
 oQ 4 (.mov (.c (.bool false)))])
 .ret)))
def c218 : CF := ⟨15, 2, [.mov (.t 4)], b218⟩
def b210 : C :=
 (.seq
 (.region false [
 oQ 2 (.mov (.c (.bool false)))])
 (.seq
 (.region false [
 oQ 3 (.mov (.t 0)),
 ⟨some 4, .call false (.c (.fn 220 [] [])) [], none⟩,
 ⟨some 5, .call false (.c (.fn 157 [] [])) [.t 3, .t 4], none⟩,
 oQ 2 (.mov (.t 5))])
 .ret))
def c210 : CF := ⟨6, 1, [.mov (.t 2)], b210⟩
def b212 : C :=
 (.seq
 (.region false [
 oQ 0 (.mov (.c (.str [])))])
 (.seq
 (.region false [
 oQ 0 (.mov (.c (.str [43, 45, 195, 151, 195, 183, 226, 140, 136, 226, 140, 138, 124, 42, 33, 126, 60, 226, 137, 164, 61, 226, 137, 165, 62, 226, 137, 160, 226, 136, 167, 226, 136, 168, 226, 141, 178, 226, 141, 177, 226, 141, 180, 44, 226, 141, 170, 226, 134, 145, 226, 134, 147, 226, 140, 189, 226, 138, 150, 226, 141, 137, 47, 226, 140, 191, 92, 226, 141, 128, 226, 141, 179, 226, 136, 138, 226, 141, 139, 226, 141, 146, 226, 136, 170, 226, 138, 130, 226, 138, 131, 226, 137, 161, 226, 137, 162, 226, 138, 164, 226, 138, 165, 226, 140, 183, 226, 141, 142, 226, 141, 149, 194, 168, 226, 136, 152, 46, 226, 141, 168])))])
 .ret))
def c212 : CF := ⟨1, 0, [.mov (.t 0)], b212⟩
theorem s207 : stripF Go.Proofs.Tryz.prog 99 = some c207 := by kernel_rfl
theorem s218 : stripF Go.Proofs.Tryz.prog 157 = some c218 := by kernel_rfl
theorem s210 : stripF Go.Proofs.Tryz.prog 156 = some c210 := by kernel_rfl
theorem s212 : stripF Go.Proofs.Tryz.prog 220 = some c212 := by kernel_rfl

theorem dec_bad {s : List UInt8} (hne : s ≠ []) : ((decL s).1 = 65533 ∧ hasPre s [239, 191, 189] = false) ↔ ((decL s).1 = 65533 ∧ (decL s).2 = 1) := by
  match s, hne with
  | [a], _ =>
    have hp : hasPre [a] [239, 191, 189] = false := rfl
    rw [hp, decL_at (s := [a]) (n := 1) (b0 := a.toNat) rfl rfl rfl rfl rfl]
    repeat' split
    all_goals first | (simp; done) | (exfalso; omega) | (dsimp only; omega)
  | [a, b], _ =>
    have hp : hasPre [a, b] [239, 191, 189] = false := rfl
    rw [hp, decL_at (s := [a, b]) (n := 2) (b0 := a.toNat) (b1 := b.toNat) rfl rfl rfl rfl rfl]
    repeat' split
    all_goals first | (simp; done) | (exfalso; omega) | (dsimp only; omega)
  | a :: b :: c :: r, _ =>
    have hp : hasPre (a :: b :: c :: r) [239, 191, 189] = false ↔ ¬ (a.toNat = 239 ∧ b.toNat = 191 ∧ c.toNat = 189) := by
      have e1 : ∀ (x y : UInt8), x = y ↔ x.toNat = y.toNat := fun x y => ⟨fun h => by rw [h], fun h => UInt8.toNat_inj.1 h⟩
      have ea := e1 a 239
      have eb := e1 b 191
      have ec := e1 c 189
      have k1 : (239 : UInt8).toNat = 239 := rfl
      have k2 : (191 : UInt8).toNat = 191 := rfl
      have k3 : (189 : UInt8).toNat = 189 := rfl
      rw [k1] at ea
      rw [k2] at eb
      rw [k3] at ec
      rw [← ea, ← eb, ← ec]
      simp [hasPre]
    rw [hp, decL_at (s := a :: b :: c :: r) (n := r.length + 3) (b0 := a.toNat) (b1 := b.toNat) (b2 := c.toNat) rfl rfl rfl rfl rfl]
    have ha := a.toNat_lt
    have hb := b.toNat_lt
    have hc := c.toNat_lt
    generalize ((a :: b :: c :: r).getD 3 0).toNat = b3
    generalize a.toNat = x at *
    generalize b.toNat = y at *
    generalize c.toNat = z at *
    repeat' split
    all_goals first | (exfalso; omega) | (dsimp only; omega)

theorem bad_cons' {s : List UInt8} (h : s ≠ []) : bad s = if (decL s).1 = 65533 ∧ (decL s).2 = 1 then some 0 else (bad (s.drop (decL s).2)).map (· + 1) := by
  rw [bad_cons h]
  by_cases h1 : (decL s).1 = 65533 ∧ (decL s).2 = 1
  · rw [if_pos h1, if_pos ((dec_bad h).2 h1)]
  · rw [if_neg h1, if_neg (fun h2 => h1 ((dec_bad h).1 h2))]

set_option maxHeartbeats 1000000 in
theorem good207 (s : List UInt8) (hs : s.length ≤ 1100000) : Good Go.Proofs.Tryz.prog 99 [.str s] (runesR s) := by
  refine good_go mix s207 (Nat.le_of_ble_eq_true rfl) fun e he => ?_
  have e0 : e 0 = .str s := he 0
  clear he
  simp only [c207,b207, oQ]
  simp -implicitDefEqProofs (disch := omega) only [↓ZD,ZP,cnd_t,cnd_f,↓reduceIte,Env.put,stepO,lenV,binV,binInt,unV,loadV,sliceV,boundOf,convV,slstrV,if_pos,if_neg,Int.reduceToNat,Nat.reducePow,V.cells,V.isCell,V.boxable,Nat.reduceEqDiff,reduceCtorEq,reduceIte,ite_self,enterEnv,e0]
  refine go_loop (fun m e H => ∃ t out v, OutAt H v out 0 ∧ t.length ≤ s.length ∧ m = t.length ∧ rn s = out ++ rn t ∧ bad s = (bad t).map (· + out.length) ∧ e 0 = .str t ∧ e 5 = v)
    s.length ⟨s, [], .sl true [] 0, .inl ⟨rfl, rfl, rfl⟩, Nat.le_refl _, rfl, by simp, by simp, ?_, ?_⟩ ?_
  · simp [Env.set, e0]
  · simp [Env.set]
  rintro m e H ⟨t, out, v, hout, htl, rfl, hrn, hbad, e0, e5⟩
  have hol : out.length ≤ 1100000 := by
    have h1 := rn_len s
    rw [hrn, List.length_append] at h1
    omega
  rcases Nat.eq_zero_or_pos t.length with hz | hpos
  · obtain rfl := List.length_eq_zero_iff.1 hz
    rw [rn_nil, List.append_nil] at hrn
    have hb0 : bad s = none := hbad
    rw [runesR, hb0, hrn]
    rcases hout with ⟨rfl, rfl, h3⟩ | ⟨g, rfl, h3, h4⟩
    · simp -implicitDefEqProofs (disch := omega) only [↓ZD,ZP,cnd_t,cnd_f,↓reduceIte,Env.put,stepO,lenV,binV,binInt,unV,loadV,sliceV,boundOf,convV,slstrV,if_pos,if_neg,Int.reduceToNat,Nat.reducePow,V.cells,V.isCell,V.boxable,Nat.reduceEqDiff,reduceCtorEq,reduceIte,ite_self,enterEnv,e0,e5]
      exact gives_eq rfl rfl
    · obtain ⟨c1, rfl⟩ : ∃ c1, H = [c1] := List.length_eq_one_iff.1 (by simpa using h4)
      simp only [List.getElem?_cons_zero,Option.some.injEq] at h3
      subst h3
      have hcl := rl_len out
      have htake : (rl out).take out.length = rl out := by rw [← hcl, List.take_length]
      simp -implicitDefEqProofs (disch := omega) only [↓ZD,ZP,cnd_t,cnd_f,↓reduceIte,Env.put,stepO,lenV,binV,binInt,unV,loadV,sliceV,boundOf,convV,slstrV,if_pos,if_neg,Int.reduceToNat,Nat.reducePow,V.cells,V.isCell,V.boxable,Nat.reduceEqDiff,reduceCtorEq,reduceIte,ite_self,enterEnv,e0,e5]
      refine gives_lend 1 (v' := .tup [rsl out, .int .i64 0, .int .i64 0]) ?_ (by simp [V.ro, roL, rsl, rl_ro]) rfl
      simp only [lend1,borL,bor,List.getElem?_cons_zero,if_true,List.drop_zero,Nat.mul_one,htake,rsl]
  · have hne : t ≠ [] := by intro h; rw [h] at hpos; exact absurd hpos (Nat.lt_irrefl _)
    have hbc := bad_cons' hne
    have hrc := rn_cons hne
    have hw := decL_w hne
    have hp := good215 t hne (by omega)
    obtain ⟨x, w, hd⟩ : ∃ x w, decL t = (x, w) := ⟨_, _, rfl⟩
    simp only [hd] at hbc hrc hw hp
    rw [hrc] at hrn
    have hdl : (t.drop w).length = t.length - w := List.length_drop
    have htk : (t.drop w).take (t.length - w) = t.drop w := by rw [← hdl, List.take_length]
    have hsub : ((t.length : Int) - (w : Int)) = ((t.length - w : Nat) : Int) := by omega
    by_cases hx : x = 65533 ∧ w = 1
    · rw [if_pos hx] at hbc
      rw [hbc] at hbad
      obtain ⟨rfl, rfl⟩ := hx
      have hb0 : bad s = some out.length := by rw [hbad]; simp
      rw [runesR, hb0]
      simp -implicitDefEqProofs (disch := omega) only [↓ZD,ZP,cnd_t,cnd_f,↓reduceIte,Env.put,stepO,lenV,binV,binInt,unV,loadV,sliceV,boundOf,convV,slstrV,if_pos,if_neg,Int.reduceToNat,Nat.reducePow,V.cells,V.isCell,V.boxable,Nat.reduceEqDiff,reduceCtorEq,reduceIte,ite_self,enterEnv,e0,e5]
      refine calP_ro rfl hp rfl ?_
      rcases hout with ⟨rfl, rfl, h3⟩ | ⟨g, rfl, h3, h4⟩
      · simp -implicitDefEqProofs (disch := omega) only [↓ZD,ZP,cnd_t,cnd_f,↓reduceIte,Env.put,stepO,lenV,binV,binInt,unV,loadV,sliceV,boundOf,convV,slstrV,if_pos,if_neg,Int.reduceToNat,Nat.reducePow,V.cells,V.isCell,V.boxable,Nat.reduceEqDiff,reduceCtorEq,reduceIte,ite_self,enterEnv,e0,e5]
        exact gives_eq rfl rfl
      · simp -implicitDefEqProofs (disch := omega) only [↓ZD,ZP,cnd_t,cnd_f,↓reduceIte,Env.put,stepO,lenV,binV,binInt,unV,loadV,sliceV,boundOf,convV,slstrV,if_pos,if_neg,Int.reduceToNat,Nat.reducePow,V.cells,V.isCell,V.boxable,Nat.reduceEqDiff,reduceCtorEq,reduceIte,ite_self,enterEnv,e0,e5]
        exact gives_eq rfl rfl
    · rw [if_neg hx] at hbc
      have hnext : rn s = (out ++ [x]) ++ rn (t.drop w) := by rw [hrn]; simp
      have hbad' : bad s = (bad (t.drop w)).map (· + (out ++ [x]).length) := by
        rw [hbad, hbc, Option.map_map]
        congr 1
        funext i
        simp; omega
      simp -implicitDefEqProofs (disch := omega) only [↓ZD,ZP,cnd_t,cnd_f,↓reduceIte,Env.put,stepO,lenV,binV,binInt,unV,loadV,sliceV,boundOf,convV,slstrV,if_pos,if_neg,Int.reduceToNat,Nat.reducePow,V.cells,V.isCell,V.boxable,Nat.reduceEqDiff,reduceCtorEq,reduceIte,ite_self,enterEnv,e0,e5]
      refine calP_ro rfl hp rfl ?_
      rcases hout with ⟨rfl, rfl, h3⟩ | ⟨g, rfl, h3, h4⟩
      · obtain rfl : H = [] := by simpa using h3
        by_cases hx1 : x = 65533
        · have hw1 : ¬ w = 1 := fun h => hx ⟨hx1, h⟩
          simp -implicitDefEqProofs (disch := omega) only [↓ZD,ZP,cnd_t,cnd_f,↓reduceIte,Env.put,stepO,lenV,binV,binInt,unV,loadV,sliceV,boundOf,convV,slstrV,if_pos,if_neg,Int.reduceToNat,Nat.reducePow,V.cells,V.isCell,V.boxable,Nat.reduceEqDiff,reduceCtorEq,reduceIte,ite_self,enterEnv,e0,e5,fillL,evParts,splice,List.take_zero,List.take_succ_cons,List.drop_succ_cons,List.drop_zero,List.drop_nil,appendV,srcCells,readSl,hsub,htk]
          exact ⟨(t.drop w).length, by omega, t.drop w, [x], .view 0 0 0 1, .inr ⟨0, rfl, rfl, rfl⟩, by omega, rfl, hnext, hbad', rfl, rfl⟩
        · simp -implicitDefEqProofs (disch := omega) only [↓ZD,ZP,cnd_t,cnd_f,↓reduceIte,Env.put,stepO,lenV,binV,binInt,unV,loadV,sliceV,boundOf,convV,slstrV,if_pos,if_neg,Int.reduceToNat,Nat.reducePow,V.cells,V.isCell,V.boxable,Nat.reduceEqDiff,reduceCtorEq,reduceIte,ite_self,enterEnv,e0,e5,fillL,evParts,splice,List.take_zero,List.take_succ_cons,List.drop_succ_cons,List.drop_zero,List.drop_nil,appendV,srcCells,readSl,hsub,htk]
          exact ⟨(t.drop w).length, by omega, t.drop w, [x], .view 0 0 0 1, .inr ⟨0, rfl, rfl, rfl⟩, by omega, rfl, hnext, hbad', rfl, rfl⟩
      · obtain ⟨c1, rfl⟩ : ∃ c1, H = [c1] := List.length_eq_one_iff.1 (by simpa using h4)
        simp only [List.getElem?_cons_zero,Option.some.injEq] at h3
        subst h3
        have hcl := rl_len out
        have htake : (rl out).take out.length ++ [V.int .i32 (x : Nat)] = rl (out ++ [x]) := by rw [rl_app, ← hcl, List.take_length]; rfl
        have hlen1 : (out ++ [x]).length = out.length + 1 := by simp
        by_cases hx1 : x = 65533
        · have hw1 : ¬ w = 1 := fun h => hx ⟨hx1, h⟩
          simp -implicitDefEqProofs (disch := omega) only [↓ZD,ZP,cnd_t,cnd_f,↓reduceIte,Env.put,stepO,lenV,binV,binInt,unV,loadV,sliceV,boundOf,convV,slstrV,if_pos,if_neg,Int.reduceToNat,Nat.reducePow,V.cells,V.isCell,V.boxable,Nat.reduceEqDiff,reduceCtorEq,reduceIte,ite_self,enterEnv,e0,e5,fillL,evParts,splice,List.take_zero,List.take_succ_cons,List.drop_succ_cons,List.drop_zero,List.drop_nil,appendV,srcCells,readSl,hcl,htake,hsub,htk]
          exact ⟨(t.drop w).length, by omega, t.drop w, out ++ [x], .view 0 (g + 1) 0 (out.length + 1), .inr ⟨g + 1, by rw [hlen1], rfl, rfl⟩, by omega, rfl, hnext, hbad', rfl, rfl⟩
        · simp -implicitDefEqProofs (disch := omega) only [↓ZD,ZP,cnd_t,cnd_f,↓reduceIte,Env.put,stepO,lenV,binV,binInt,unV,loadV,sliceV,boundOf,convV,slstrV,if_pos,if_neg,Int.reduceToNat,Nat.reducePow,V.cells,V.isCell,V.boxable,Nat.reduceEqDiff,reduceCtorEq,reduceIte,ite_self,enterEnv,e0,e5,fillL,evParts,splice,List.take_zero,List.take_succ_cons,List.drop_succ_cons,List.drop_zero,List.drop_nil,appendV,srcCells,readSl,hcl,htake,hsub,htk]
          exact ⟨(t.drop w).length, by omega, t.drop w, out ++ [x], .view 0 (g + 1) 0 (out.length + 1), .inr ⟨g + 1, by rw [hlen1], rfl, rfl⟩, by omega, rfl, hnext, hbad', rfl, rfl⟩

/-! ### Is a character in a text? -/
def inI (c : Int) (l : List Nat) : Bool := decide (c ∈ l.map fun (n : Nat) => (n : Int))
theorem inI_cons (c : Int) (x : Nat) (l : List Nat) : inI c (x :: l) = (decide ((x : Int) = c) || inI c l) := by
  by_cases h : (x : Int) = c
  · simp [inI, h]
  · simp [inI, h, Ne.symm h]

theorem good218 (s : List UInt8) (c : Int) (hs : s.length ≤ 1100000) : Good Go.Proofs.Tryz.prog 157 [.int .i32 c, .str s] (.bool (inI c (rn s))) := by
  refine good_go mix s218 (Nat.le_of_ble_eq_true rfl) fun e he => ?_
  have e0 : e 1 = .str s := he 1
  have e1 : e 0 = .int .i32 c := he 0
  clear he
  simp only [c218,b218, oQ]
  simp -implicitDefEqProofs (disch := omega) only [↓ZD,ZP,cnd_t,cnd_f,↓reduceIte,Env.put,stepO,lenV,binV,binInt,unV,loadV,sliceV,boundOf,convV,slstrV,if_pos,if_neg,Int.reduceToNat,Nat.reducePow,V.cells,V.isCell,V.boxable,Nat.reduceEqDiff,reduceCtorEq,reduceIte,ite_self,enterEnv,e0,e1]
  refine go_loop (fun m e H => ∃ pos, H = [.iter s pos] ∧ pos ≤ s.length ∧ m = s.length - pos ∧ inI c (rn s) = inI c (rn (s.drop pos)) ∧ e 0 = .int .i32 c ∧ e 8 = .cell 0 0 0)
    s.length ⟨0, rfl, Nat.zero_le _, rfl, by simp, ?_, ?_⟩ ?_
  · simp [Env.set, e1]
  · simp [Env.set]
  rintro m e H ⟨pos, rfl, hpos, rfl, hiff, e1, e8⟩
  rcases Nat.lt_or_ge pos s.length with hlt | hge
  · obtain ⟨d1, d2, d3⟩ := drop_dec hlt
    obtain ⟨x, w, hd⟩ : ∃ x w, decL (s.drop pos) = (x, w) := ⟨_, _, rfl⟩
    simp only [hd] at d1 d2 d3
    rw [d3, inI_cons] at hiff
    by_cases hx : (x : Int) = c
    · rw [hx, decide_eq_true rfl, Bool.true_or] at hiff
      subst hx
      simp -implicitDefEqProofs (disch := omega) only [↓ZD,ZP,cnd_t,cnd_f,↓reduceIte,Env.put,stepO,lenV,binV,binInt,unV,loadV,sliceV,boundOf,convV,slstrV,if_pos,if_neg,Int.reduceToNat,Nat.reducePow,V.cells,V.isCell,V.boxable,Nat.reduceEqDiff,reduceCtorEq,reduceIte,ite_self,enterEnv,e1,e8,hlt,hd]
      exact gives_eq rfl (by rw [hiff]; rfl)
    · rw [decide_eq_false hx, Bool.false_or] at hiff
      simp -implicitDefEqProofs (disch := omega) only [↓ZD,ZP,cnd_t,cnd_f,↓reduceIte,Env.put,stepO,lenV,binV,binInt,unV,loadV,sliceV,boundOf,convV,slstrV,if_pos,if_neg,Int.reduceToNat,Nat.reducePow,V.cells,V.isCell,V.boxable,Nat.reduceEqDiff,reduceCtorEq,reduceIte,ite_self,enterEnv,e1,e8,hlt,hd]
      exact ⟨_, by omega, pos + w, rfl, d2, rfl, hiff⟩
  · have hnl : ¬ pos < s.length := by omega
    rw [List.drop_of_length_le hge, rn_nil] at hiff
    simp -implicitDefEqProofs (disch := omega) only [↓ZD,ZP,cnd_t,cnd_f,↓reduceIte,Env.put,stepO,lenV,binV,binInt,unV,loadV,sliceV,boundOf,convV,slstrV,if_pos,if_neg,Int.reduceToNat,Nat.reducePow,V.cells,V.isCell,V.boxable,Nat.reduceEqDiff,reduceCtorEq,reduceIte,ite_self,enterEnv,e1,e8,hnl]
    exact gives_eq rfl (by rw [hiff]; rfl)

theorem good212 : Good Go.Proofs.Tryz.prog 220 [] (.str primB) := by
  refine good_go mix s212 (Nat.le_of_ble_eq_true rfl) fun e he => ?_
  clear he
  simp only [c212,b212, oQ]
  simp -implicitDefEqProofs (disch := omega) only [↓ZD,ZP,cnd_t,cnd_f,↓reduceIte,Env.put,stepO,lenV,binV,binInt,unV,loadV,sliceV,boundOf,convV,slstrV,if_pos,if_neg,Int.reduceToNat,Nat.reducePow,V.cells,V.isCell,V.boxable,Nat.reduceEqDiff,reduceCtorEq,reduceIte,ite_self,enterEnv]
  exact gives_eq rfl rfl
theorem good210 (c : Int) : Good Go.Proofs.Tryz.prog 156 [.int .i32 c] (.bool (inI c (rn primB))) := by
  refine good_go mix s210 (Nat.le_of_ble_eq_true rfl) fun e he => ?_
  have e0 : e 0 = .int .i32 c := he 0
  clear he
  simp only [c210,b210, oQ]
  simp -implicitDefEqProofs (disch := omega) only [↓ZD,ZP,cnd_t,cnd_f,↓reduceIte,Env.put,stepO,lenV,binV,binInt,unV,loadV,sliceV,boundOf,convV,slstrV,if_pos,if_neg,Int.reduceToNat,Nat.reducePow,V.cells,V.isCell,V.boxable,Nat.reduceEqDiff,reduceCtorEq,reduceIte,ite_self,enterEnv,e0]
  refine calP_ro rfl good212 rfl ?_
  simp -implicitDefEqProofs (disch := omega) only [↓ZD,ZP,cnd_t,cnd_f,↓reduceIte,Env.put,stepO,lenV,binV,binInt,unV,loadV,sliceV,boundOf,convV,slstrV,if_pos,if_neg,Int.reduceToNat,Nat.reducePow,V.cells,V.isCell,V.boxable,Nat.reduceEqDiff,reduceCtorEq,reduceIte,ite_self,enterEnv,e0]
  refine calP_ro rfl (good218 primB c (by decide)) rfl ?_
  simp -implicitDefEqProofs (disch := omega) only [↓ZD,ZP,cnd_t,cnd_f,↓reduceIte,Env.put,stepO,lenV,binV,binInt,unV,loadV,sliceV,boundOf,convV,slstrV,if_pos,if_neg,Int.reduceToNat,Nat.reducePow,V.cells,V.isCell,V.boxable,Nat.reduceEqDiff,reduceCtorEq,reduceIte,ite_self,enterEnv,e0]
  exact gives_eq rfl rfl
end Fe
