/-
  Characters as bytes, and back. No condition.
-/
import Derived.Test.YtjgjfabmakkooaaFfK
set_option linter.unusedSimpArgs false
set_option linter.unusedVariables false
open Go Go.Proofs
namespace Fe

/-! ### Characters, written and read again -/
theorem toNat_of {n : Nat} (h : n < 256) : (UInt8.ofNat n).toNat = n := by
  rw [UInt8.toNat_ofNat']; exact Nat.mod_eq_of_lt h

theorem decL1 (a0 : UInt8) (X : List UInt8) (n : Nat) (hn : a0.toNat = n) (h : n < 128) : decL (a0 :: X) = (n, 1) := by
  unfold decL
  simp only [List.getD_cons_zero,hn]
  rw [if_pos h]

theorem cont_t {s : List UInt8} {k n : Nat} {b : UInt8} (hs : s.getD k 0 = b) (hn : b.toNat = n) (hl : k < s.length) (h : n / 64 = 2) : (decide (k < s.length) && (s.getD k 0).toNat / 64 == 2) = true := by
  rw [hs, hn, h, decide_eq_true hl]; rfl

theorem decL2 (a0 a1 : UInt8) (X : List UInt8) (n0 n1 c : Nat) (h0 : a0.toNat = n0) (h1 : a1.toNat = n1) (q1 : ¬ n0 < 128) (q2 : n0 / 32 = 6) (q3 : n1 / 64 = 2) (q4 : n0 % 32 * 64 + n1 % 64 = c) (q5 : 128 ≤ c) :
    decL (a0 :: a1 :: X) = (c, 2) := by
  have c1 := cont_t (s := a0 :: a1 :: X) (k := 1) rfl h1 (by simp) q3
  have g0 : ((a0 :: a1 :: X).getD 0 0).toNat = n0 := h0
  have g1 : ((a0 :: a1 :: X).getD 1 0).toNat = n1 := h1
  unfold decL
  simp only [c1,g0]
  rw [if_neg q1, if_pos (by rw [q2]; rfl)]
  simp only [g1,q4]
  rw [if_pos q5]

theorem decL3 (a0 a1 a2 : UInt8) (X : List UInt8) (n0 n1 n2 c : Nat) (h0 : a0.toNat = n0) (h1 : a1.toNat = n1) (h2 : a2.toNat = n2) (q1 : ¬ n0 < 128) (q2 : ¬ n0 / 32 = 6) (q2' : n0 / 16 = 14) (q3 : n1 / 64 = 2) (q3' : n2 / 64 = 2)
    (q4 : n0 % 16 * 4096 + n1 % 64 * 64 + n2 % 64 = c) (q5 : 2048 ≤ c) (q6 : Utf8.valid (c : Int) = true) :
    decL (a0 :: a1 :: a2 :: X) = (c, 3) := by
  have c1 := cont_t (s := a0 :: a1 :: a2 :: X) (k := 1) rfl h1 (by simp) q3
  have c2 := cont_t (s := a0 :: a1 :: a2 :: X) (k := 2) rfl h2 (by simp) q3'
  have g0 : ((a0 :: a1 :: a2 :: X).getD 0 0).toNat = n0 := h0
  have g1 : ((a0 :: a1 :: a2 :: X).getD 1 0).toNat = n1 := h1
  have g2 : ((a0 :: a1 :: a2 :: X).getD 2 0).toNat = n2 := h2
  have b1 : (n0 / 32 == 6) = false := by simpa using q2
  unfold decL
  simp only [c1,c2,g0,b1, oQ]
  rw [if_neg q1, if_neg (by decide), if_pos (by rw [q2']; rfl)]
  simp only [g1,g2,q4]
  rw [if_pos (by rw [q6, decide_eq_true q5]; rfl)]

theorem decL4 (a0 a1 a2 a3 : UInt8) (X : List UInt8) (n0 n1 n2 n3 c : Nat) (h0 : a0.toNat = n0) (h1 : a1.toNat = n1) (h2 : a2.toNat = n2) (h3 : a3.toNat = n3) (q1 : ¬ n0 < 128) (q2 : ¬ n0 / 32 = 6) (q2' : ¬ n0 / 16 = 14) (q2'' : n0 / 8 = 30)
    (q3 : n1 / 64 = 2) (q3' : n2 / 64 = 2) (q3'' : n3 / 64 = 2)
    (q4 : n0 % 8 * 262144 + n1 % 64 * 4096 + n2 % 64 * 64 + n3 % 64 = c) (q5 : 65536 ≤ c) (q6 : Utf8.valid (c : Int) = true) :
    decL (a0 :: a1 :: a2 :: a3 :: X) = (c, 4) := by
  have c1 := cont_t (s := a0 :: a1 :: a2 :: a3 :: X) (k := 1) rfl h1 (by simp) q3
  have c2 := cont_t (s := a0 :: a1 :: a2 :: a3 :: X) (k := 2) rfl h2 (by simp) q3'
  have c3 := cont_t (s := a0 :: a1 :: a2 :: a3 :: X) (k := 3) rfl h3 (by simp) q3''
  have g0 : ((a0 :: a1 :: a2 :: a3 :: X).getD 0 0).toNat = n0 := h0
  have g1 : ((a0 :: a1 :: a2 :: a3 :: X).getD 1 0).toNat = n1 := h1
  have g2 : ((a0 :: a1 :: a2 :: a3 :: X).getD 2 0).toNat = n2 := h2
  have g3 : ((a0 :: a1 :: a2 :: a3 :: X).getD 3 0).toNat = n3 := h3
  have b1 : (n0 / 32 == 6) = false := by simpa using q2
  have b2 : (n0 / 16 == 14) = false := by simpa using q2'
  unfold decL
  simp only [c1,c2,c3,g0,b1,b2, oQ]
  rw [if_neg q1, if_neg (by decide), if_neg (by decide), if_pos (by rw [q2'']; rfl)]
  simp only [g1,g2,g3,q4]
  rw [if_pos (by rw [q6, decide_eq_true q5]; rfl)]

theorem enc_valid {c : Nat} (hc : charOK c) : Utf8.valid (c : Int) = true := by
  unfold charOK at hc
  unfold Utf8.valid
  simp
  omega
theorem enc_n {c : Nat} (hc : charOK c) : (if Utf8.valid (c : Int) = true then (c : Int).toNat else Utf8.runeError) = c := by
  rw [if_pos (enc_valid hc), toNat_c]
theorem encG1 (r : Int) (n : Nat) (hn : (if Utf8.valid r = true then r.toNat else Utf8.runeError) = n) (h : n < 128) : encL r = [UInt8.ofNat n] := by
  unfold encL Utf8.encode
  rw [hn]
  dsimp only
  rw [if_pos h]
theorem encL1 {c : Nat} (hc : charOK c) (h : c < 128) : encL (c : Int) = [UInt8.ofNat c] :=
  encG1 (c : Int) c (enc_n hc) h
theorem encG2 (r : Int) (n : Nat) (hn : (if Utf8.valid r = true then r.toNat else Utf8.runeError) = n) (h1 : ¬ n < 128) (h : n < 2048) : encL r = [UInt8.ofNat (192 + n / 64), UInt8.ofNat (128 + n % 64)] := by
  unfold encL Utf8.encode
  rw [hn]
  dsimp only
  rw [if_neg h1, if_pos h]
theorem encL2 {c : Nat} (hc : charOK c) (h1 : ¬ c < 128) (h : c < 2048) : encL (c : Int) = [UInt8.ofNat (192 + c / 64), UInt8.ofNat (128 + c % 64)] :=
  encG2 (c : Int) c (enc_n hc) h1 h
theorem encG3 (r : Int) (n : Nat) (hn : (if Utf8.valid r = true then r.toNat else Utf8.runeError) = n) (h1 : ¬ n < 128) (h2 : ¬ n < 2048) (h : n < 65536) : encL r = [UInt8.ofNat (224 + n / 4096), UInt8.ofNat (128 + n / 64 % 64), UInt8.ofNat (128 + n % 64)] := by
  unfold encL Utf8.encode
  rw [hn]
  dsimp only
  rw [if_neg h1, if_neg h2, if_pos h]
theorem encL3 {c : Nat} (hc : charOK c) (h1 : ¬ c < 128) (h2 : ¬ c < 2048) (h : c < 65536) : encL (c : Int) = [UInt8.ofNat (224 + c / 4096), UInt8.ofNat (128 + c / 64 % 64), UInt8.ofNat (128 + c % 64)] :=
  encG3 (c : Int) c (enc_n hc) h1 h2 h
theorem encG4 (r : Int) (n : Nat) (hn : (if Utf8.valid r = true then r.toNat else Utf8.runeError) = n) (h1 : ¬ n < 128) (h2 : ¬ n < 2048) (h : ¬ n < 65536) : encL r = [UInt8.ofNat (240 + n / 262144), UInt8.ofNat (128 + n / 4096 % 64), UInt8.ofNat (128 + n / 64 % 64), UInt8.ofNat (128 + n % 64)] := by
  unfold encL Utf8.encode
  rw [hn]
  dsimp only
  rw [if_neg h1, if_neg h2, if_neg h]
theorem encL4 {c : Nat} (hc : charOK c) (h1 : ¬ c < 128) (h2 : ¬ c < 2048) (h : ¬ c < 65536) : encL (c : Int) = [UInt8.ofNat (240 + c / 262144), UInt8.ofNat (128 + c / 4096 % 64), UInt8.ofNat (128 + c / 64 % 64), UInt8.ofNat (128 + c % 64)] :=
  encG4 (c : Int) c (enc_n hc) h1 h2 h

theorem dec_enc (c : Nat) (X : List UInt8) (hc : charOK c) : decL (encL (c : Int) ++ X) = (c, (encL (c : Int)).length) := by
  have hv := enc_valid hc
  have hcc := hc
  unfold charOK at hcc
  by_cases h1 : c < 128
  · rw [encL1 hc h1]
    exact decL1 _ X c (toNat_of (by omega)) h1
  · by_cases h2 : c < 2048
    · rw [encL2 hc h1 h2]
      exact decL2 _ _ X _ _ c (toNat_of (by omega)) (toNat_of (by omega)) (by omega) (by omega) (by omega) (by omega) (by omega)
    · by_cases h3 : c < 65536
      · rw [encL3 hc h1 h2 h3]
        exact decL3 _ _ _ X _ _ _ c (toNat_of (by omega)) (toNat_of (by omega)) (toNat_of (by omega)) (by omega) (by omega) (by omega) (by omega) (by omega) (by omega) (by omega) hv
      · rw [encL4 hc h1 h2 h3]
        exact decL4 _ _ _ _ X _ _ _ _ c (toNat_of (by omega)) (toNat_of (by omega)) (toNat_of (by omega)) (toNat_of (by omega)) (by omega) (by omega) (by omega) (by omega) (by omega) (by omega) (by omega) (by omega) (by omega) hv

theorem encL_pos (c : Nat) (hc : charOK c) : encL (c : Int) ≠ [] := by
  intro h
  have h1 := dec_enc c [] hc
  rw [h] at h1
  have : (decL []).2 = 1 := rfl
  rw [List.append_nil] at h1
  rw [h1] at this
  simp at this

theorem encs_cons (c : Nat) (l : List Nat) : encs (c :: l) = encL (c : Int) ++ encs l := by simp [encs]
theorem encs_app (a b : List Nat) : encs (a ++ b) = encs a ++ encs b := by simp [encs]

theorem rn_encs : ∀ l : List Nat, (∀ c ∈ l, charOK c) → rn (encs l) = l
  | [], _ => rfl
  | c :: l, h => by
    have hc := h c (List.mem_cons_self ..)
    have hne := encL_pos c hc
    rw [encs_cons, rn_cons (by simp [hne]), dec_enc c _ hc]
    simp only [List.drop_left]
    rw [rn_encs l fun x hx => h x (List.mem_cons_of_mem _ hx)]

theorem bad_encs : ∀ l : List Nat, (∀ c ∈ l, charOK c) → bad (encs l) = none
  | [], _ => rfl
  | c :: l, h => by
    have hc := h c (List.mem_cons_self ..)
    have hne := encL_pos c hc
    rw [encs_cons, bad_cons (by simp [hne]), dec_enc c _ hc]
    simp only [List.drop_left]
    rw [bad_encs l fun x hx => h x (List.mem_cons_of_mem _ hx)]
    rw [if_neg]
    · rfl
    · rintro ⟨rfl, hp⟩
      have he : encL ((65533 : Nat) : Int) = [239, 191, 189] := by decide
      rw [he] at hp
      simp [hasPre] at hp
end Fe
