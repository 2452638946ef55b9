/-
  The plain law: a line's tokens, put with blanks between, are its tokens again. No condition.
-/
import Derived.Test.YtjgjfabmakkooaaFfK
open Go Go.Proofs
namespace Fe
set_option linter.unusedSimpArgs false
set_option linter.unusedVariables false

/-! ### Characters, written and read again -/
theorem toNat_of {n : Nat} (h : n < 256) : (UInt8.ofNat n).toNat = n := by
  rw [UInt8.toNat_ofNat']; exact Nat.mod_eq_of_lt h

theorem decL1 (a0 : UInt8) (X : List UInt8) (n : Nat) (hn : a0.toNat = n) (h : n < 128) : decL (a0 :: X) = (n, 1) := by
  unfold decL
  simp only [List.getD_cons_zero,hn]
  rw [if_pos h]

theorem cont_t {s : List UInt8} {k n : Nat} {b : UInt8} (hs : s.getD k 0 = b) (hn : b.toNat = n) (hl : k < s.length) (h : n / 64 = 2) : (decide (k < s.length) && (s.getD k 0).toNat / 64 == 2) = true := by
  rw [hs, hn, h, decide_eq_true hl]; rfl

theorem decL2 (a0 a1 : UInt8) (X : List UInt8) (n0 n1 c : Nat) (h0 : a0.toNat = n0) (h1 : a1.toNat = n1) (q1 : ¬ n0 < 128) (q2 : n0 / 32 = 6) (q3 : n1 / 64 = 2) (q4 : n0 % 32 * 64 + n1 % 64 = c) (q5 : 128 ≤ c) :
    decL (a0 :: a1 :: X) = (c, 2) := by
  have c1 := cont_t (s := a0 :: a1 :: X) (k := 1) rfl h1 (by simp) q3
  have g0 : ((a0 :: a1 :: X).getD 0 0).toNat = n0 := h0
  have g1 : ((a0 :: a1 :: X).getD 1 0).toNat = n1 := h1
  unfold decL
  simp only [c1,g0]
  rw [if_neg q1, if_pos (by rw [q2]; rfl)]
  simp only [g1,q4]
  rw [if_pos q5]

theorem decL3 (a0 a1 a2 : UInt8) (X : List UInt8) (n0 n1 n2 c : Nat) (h0 : a0.toNat = n0) (h1 : a1.toNat = n1) (h2 : a2.toNat = n2) (q1 : ¬ n0 < 128) (q2 : ¬ n0 / 32 = 6) (q2' : n0 / 16 = 14) (q3 : n1 / 64 = 2) (q3' : n2 / 64 = 2)
    (q4 : n0 % 16 * 4096 + n1 % 64 * 64 + n2 % 64 = c) (q5 : 2048 ≤ c) (q6 : Utf8.valid (c : Int) = true) :
    decL (a0 :: a1 :: a2 :: X) = (c, 3) := by
  have c1 := cont_t (s := a0 :: a1 :: a2 :: X) (k := 1) rfl h1 (by simp) q3
  have c2 := cont_t (s := a0 :: a1 :: a2 :: X) (k := 2) rfl h2 (by simp) q3'
  have g0 : ((a0 :: a1 :: a2 :: X).getD 0 0).toNat = n0 := h0
  have g1 : ((a0 :: a1 :: a2 :: X).getD 1 0).toNat = n1 := h1
  have g2 : ((a0 :: a1 :: a2 :: X).getD 2 0).toNat = n2 := h2
  have b1 : (n0 / 32 == 6) = false := by simpa using q2
  unfold decL
  simp only [c1,c2,g0,b1]
  rw [if_neg q1, if_neg (by decide), if_pos (by rw [q2']; rfl)]
  simp only [g1,g2,q4]
  rw [if_pos (by rw [q6, decide_eq_true q5]; rfl)]

theorem decL4 (a0 a1 a2 a3 : UInt8) (X : List UInt8) (n0 n1 n2 n3 c : Nat) (h0 : a0.toNat = n0) (h1 : a1.toNat = n1) (h2 : a2.toNat = n2) (h3 : a3.toNat = n3) (q1 : ¬ n0 < 128) (q2 : ¬ n0 / 32 = 6) (q2' : ¬ n0 / 16 = 14) (q2'' : n0 / 8 = 30)
    (q3 : n1 / 64 = 2) (q3' : n2 / 64 = 2) (q3'' : n3 / 64 = 2)
    (q4 : n0 % 8 * 262144 + n1 % 64 * 4096 + n2 % 64 * 64 + n3 % 64 = c) (q5 : 65536 ≤ c) (q6 : Utf8.valid (c : Int) = true) :
    decL (a0 :: a1 :: a2 :: a3 :: X) = (c, 4) := by
  have c1 := cont_t (s := a0 :: a1 :: a2 :: a3 :: X) (k := 1) rfl h1 (by simp) q3
  have c2 := cont_t (s := a0 :: a1 :: a2 :: a3 :: X) (k := 2) rfl h2 (by simp) q3'
  have c3 := cont_t (s := a0 :: a1 :: a2 :: a3 :: X) (k := 3) rfl h3 (by simp) q3''
  have g0 : ((a0 :: a1 :: a2 :: a3 :: X).getD 0 0).toNat = n0 := h0
  have g1 : ((a0 :: a1 :: a2 :: a3 :: X).getD 1 0).toNat = n1 := h1
  have g2 : ((a0 :: a1 :: a2 :: a3 :: X).getD 2 0).toNat = n2 := h2
  have g3 : ((a0 :: a1 :: a2 :: a3 :: X).getD 3 0).toNat = n3 := h3
  have b1 : (n0 / 32 == 6) = false := by simpa using q2
  have b2 : (n0 / 16 == 14) = false := by simpa using q2'
  unfold decL
  simp only [c1,c2,c3,g0,b1,b2]
  rw [if_neg q1, if_neg (by decide), if_neg (by decide), if_pos (by rw [q2'']; rfl)]
  simp only [g1,g2,g3,q4]
  rw [if_pos (by rw [q6, decide_eq_true q5]; rfl)]

theorem enc_valid {c : Nat} (hc : charOK c) : Utf8.valid (c : Int) = true := by
  unfold charOK at hc
  unfold Utf8.valid
  simp
  omega
theorem enc_n {c : Nat} (hc : charOK c) : (if Utf8.valid (c : Int) = true then (c : Int).toNat else Utf8.runeError) = c := by
  rw [if_pos (enc_valid hc), toNat_c]
theorem encG1 (r : Int) (n : Nat) (hn : (if Utf8.valid r = true then r.toNat else Utf8.runeError) = n) (h : n < 128) : encL r = [UInt8.ofNat n] := by
  unfold encL Utf8.encode
  rw [hn]
  dsimp only
  rw [if_pos h]
theorem encL1 {c : Nat} (hc : charOK c) (h : c < 128) : encL (c : Int) = [UInt8.ofNat c] :=
  encG1 (c : Int) c (enc_n hc) h
theorem encG2 (r : Int) (n : Nat) (hn : (if Utf8.valid r = true then r.toNat else Utf8.runeError) = n) (h1 : ¬ n < 128) (h : n < 2048) : encL r = [UInt8.ofNat (192 + n / 64), UInt8.ofNat (128 + n % 64)] := by
  unfold encL Utf8.encode
  rw [hn]
  dsimp only
  rw [if_neg h1, if_pos h]
theorem encL2 {c : Nat} (hc : charOK c) (h1 : ¬ c < 128) (h : c < 2048) : encL (c : Int) = [UInt8.ofNat (192 + c / 64), UInt8.ofNat (128 + c % 64)] :=
  encG2 (c : Int) c (enc_n hc) h1 h
theorem encG3 (r : Int) (n : Nat) (hn : (if Utf8.valid r = true then r.toNat else Utf8.runeError) = n) (h1 : ¬ n < 128) (h2 : ¬ n < 2048) (h : n < 65536) : encL r = [UInt8.ofNat (224 + n / 4096), UInt8.ofNat (128 + n / 64 % 64), UInt8.ofNat (128 + n % 64)] := by
  unfold encL Utf8.encode
  rw [hn]
  dsimp only
  rw [if_neg h1, if_neg h2, if_pos h]
theorem encL3 {c : Nat} (hc : charOK c) (h1 : ¬ c < 128) (h2 : ¬ c < 2048) (h : c < 65536) : encL (c : Int) = [UInt8.ofNat (224 + c / 4096), UInt8.ofNat (128 + c / 64 % 64), UInt8.ofNat (128 + c % 64)] :=
  encG3 (c : Int) c (enc_n hc) h1 h2 h
theorem encG4 (r : Int) (n : Nat) (hn : (if Utf8.valid r = true then r.toNat else Utf8.runeError) = n) (h1 : ¬ n < 128) (h2 : ¬ n < 2048) (h : ¬ n < 65536) : encL r = [UInt8.ofNat (240 + n / 262144), UInt8.ofNat (128 + n / 4096 % 64), UInt8.ofNat (128 + n / 64 % 64), UInt8.ofNat (128 + n % 64)] := by
  unfold encL Utf8.encode
  rw [hn]
  dsimp only
  rw [if_neg h1, if_neg h2, if_neg h]
theorem encL4 {c : Nat} (hc : charOK c) (h1 : ¬ c < 128) (h2 : ¬ c < 2048) (h : ¬ c < 65536) : encL (c : Int) = [UInt8.ofNat (240 + c / 262144), UInt8.ofNat (128 + c / 4096 % 64), UInt8.ofNat (128 + c / 64 % 64), UInt8.ofNat (128 + c % 64)] :=
  encG4 (c : Int) c (enc_n hc) h1 h2 h

theorem dec_enc (c : Nat) (X : List UInt8) (hc : charOK c) : decL (encL (c : Int) ++ X) = (c, (encL (c : Int)).length) := by
  have hv := enc_valid hc
  have hcc := hc
  unfold charOK at hcc
  by_cases h1 : c < 128
  · rw [encL1 hc h1]
    exact decL1 _ X c (toNat_of (by omega)) h1
  · by_cases h2 : c < 2048
    · rw [encL2 hc h1 h2]
      exact decL2 _ _ X _ _ c (toNat_of (by omega)) (toNat_of (by omega)) (by omega) (by omega) (by omega) (by omega) (by omega)
    · by_cases h3 : c < 65536
      · rw [encL3 hc h1 h2 h3]
        exact decL3 _ _ _ X _ _ _ c (toNat_of (by omega)) (toNat_of (by omega)) (toNat_of (by omega)) (by omega) (by omega) (by omega) (by omega) (by omega) (by omega) (by omega) hv
      · rw [encL4 hc h1 h2 h3]
        exact decL4 _ _ _ _ X _ _ _ _ c (toNat_of (by omega)) (toNat_of (by omega)) (toNat_of (by omega)) (toNat_of (by omega)) (by omega) (by omega) (by omega) (by omega) (by omega) (by omega) (by omega) (by omega) (by omega) hv

theorem encL_pos (c : Nat) (hc : charOK c) : encL (c : Int) ≠ [] := by
  intro h
  have h1 := dec_enc c [] hc
  rw [h] at h1
  have : (decL []).2 = 1 := rfl
  rw [List.append_nil] at h1
  rw [h1] at this
  simp at this

theorem encs_cons (c : Nat) (l : List Nat) : encs (c :: l) = encL (c : Int) ++ encs l := by simp [encs]
theorem encs_app (a b : List Nat) : encs (a ++ b) = encs a ++ encs b := by simp [encs]

theorem rn_encs : ∀ l : List Nat, (∀ c ∈ l, charOK c) → rn (encs l) = l
  | [], _ => rfl
  | c :: l, h => by
    have hc := h c (List.mem_cons_self ..)
    have hne := encL_pos c hc
    rw [encs_cons, rn_cons (by simp [hne]), dec_enc c _ hc]
    simp only [List.drop_left]
    rw [rn_encs l fun x hx => h x (List.mem_cons_of_mem _ hx)]

theorem bad_encs : ∀ l : List Nat, (∀ c ∈ l, charOK c) → bad (encs l) = none
  | [], _ => rfl
  | c :: l, h => by
    have hc := h c (List.mem_cons_self ..)
    have hne := encL_pos c hc
    rw [encs_cons, bad_cons (by simp [hne]), dec_enc c _ hc]
    simp only [List.drop_left]
    rw [bad_encs l fun x hx => h x (List.mem_cons_of_mem _ hx)]
    rw [if_neg]
    · rfl
    · rintro ⟨rfl, hp⟩
      have he : encL ((65533 : Nat) : Int) = [239, 191, 189] := by decide
      rw [he] at hp
      simp [hasPre] at hp
end Fe
open Go Go.Proofs
namespace Fe
set_option linter.unusedSimpArgs false
set_option linter.unusedVariables false

/-! ### Tokens, read again -/
def ArrOK (a1 a2 : V) : Prop := ∃ (ea eb : Bool) (sh : List Nat) (its : List (List V)), a1 = .sl ea (shl' sh) sh.length ∧ a2 = .sl eb its.flatten its.length ∧ sh.length ≤ 1000 ∧ its.length ≤ 100000 ∧ ∀ t ∈ its, SItem t

theorem sitem_c (c : Nat) : SItem (itemC c) := ⟨2, c, false, false, false, false, [], [], by simp, by simp, rfl⟩
theorem sitem_n {b : Bool} {x y : Nat} (h : NumOK b x y) : SItem (itemOf (rv b x y)) :=
  ⟨1, 0, b, false, false, false, lim x, lim y, by have := h.1; omega, by have := h.2.1; omega, rfl⟩
theorem arr_nil : ArrOK nilV nilV := ⟨true, true, [], [], rfl, rfl, by simp, by simp, fun t ht => by simp at ht⟩
theorem arr_one {it : List V} (h : SItem it) : ArrOK (.sl false [] 0) (.sl false it 1) :=
  ⟨false, false, [], [it], rfl, by simp, by simp, by simp, fun t ht => by rw [List.mem_singleton.1 ht]; exact h⟩
theorem arr_text (l : List Nat) (hl : l.length ≤ 100000) : ArrOK (.sl false [.int .i64 (l.length : Nat)] 1) (.sl false (textItems l) (if l = [] then 1 else l.length)) := by
  by_cases h : l = []
  · subst h
    exact ⟨false, false, [0], [itemC 32], rfl, by simp [textItems], by simp, by simp, fun t ht => by rw [List.mem_singleton.1 ht]; exact sitem_c 32⟩
  · rw [textItems, if_neg h, if_neg h]
    refine ⟨false, false, [l.length], l.map itemC, rfl, by simp, by simp, by simpa using hl, fun t ht => ?_⟩
    obtain ⟨c, _, rfl⟩ := List.mem_map.1 ht
    exact sitem_c c

theorem tokenS_arr {l : List Nat} {kind n : Nat} {a1 a2 : V} (hl : l.length ≤ 1024) (h : tokenS l = .ok kind n a1 a2) : ArrOK a1 a2 := by
  cases l with
  | nil => cases h
  | cons c r =>
    rw [tokenS] at h
    split at h
    · rw [numTok] at h
      split at h
      · rename_i hz
        simp only [TR.ok.injEq] at h
        obtain ⟨_, _, h1, h2⟩ := h
        subst h1; subst h2
        obtain ⟨b, x, y, m, hr⟩ := ratP_agg (encs (c :: r.takeWhile numC))
        rw [hr] at hz ⊢
        simp only at hz
        subst hz
        obtain ⟨b', x', y', hv, hn⟩ := ratP_ok hr
        simp only
        rw [hv]
        exact arr_one (sitem_n hn)
      · cases h
    split at h
    · rw [textTok] at h
      split at h
      · cases h
      · rename_i out m ht
        have hb := textS_bound _ _ (Nat.le_refl _) out m ht
        simp only [List.length_cons] at hl
        split at h
        · simp only [TR.ok.injEq] at h
          obtain ⟨_, _, h1, h2⟩ := h
          subst h1; subst h2
          exact arr_one (sitem_c _)
        · simp only [TR.ok.injEq] at h
          obtain ⟨_, _, h1, h2⟩ := h
          subst h1; subst h2
          refine arr_text _ ?_
          have h1 := rn_len (encs out)
          have h2 := encs_len out
          omega
    split at h
    · rw [nameTok] at h
      split at h
      · cases h
      · simp only [TR.ok.injEq] at h
        obtain ⟨_, _, h1, h2⟩ := h
        subst h1; subst h2
        exact arr_nil
    split at h
    · simp only [TR.ok.injEq] at h
      obtain ⟨_, _, h1, h2⟩ := h
      subst h1; subst h2
      exact arr_nil
    split at h
    · simp only [TR.ok.injEq] at h
      obtain ⟨_, _, h1, h2⟩ := h
      subst h1; subst h2
      exact arr_nil
    split at h
    · simp only [TR.ok.injEq] at h
      obtain ⟨_, _, h1, h2⟩ := h
      subst h1; subst h2
      exact arr_nil
    · cases h

theorem tw_again {p : Nat → Bool} (hp : p 32 = false) (X : List Nat) : ∀ r : List Nat, (r.takeWhile p ++ 32 :: X).takeWhile p = r.takeWhile p
  | [] => by simp [hp]
  | c :: r => by
    rw [List.takeWhile_cons]
    split
    · rename_i h
      rw [List.cons_append, List.takeWhile_cons, if_pos h, tw_again hp X r]
    · simp [hp]

theorem textS_again (X : List Nat) : ∀ (n : Nat) (l : List Nat), l.length ≤ n → ∀ out m, textS l = some (out, m) → textS (l.take m ++ 32 :: X) = some (out, m)
  | 0, l, hl, out, m, h => by
    obtain rfl := List.length_eq_zero_iff.1 (Nat.le_zero.1 hl)
    cases h
  | n + 1, [], hl, out, m, h => by cases h
  | n + 1, c :: r, hl, out, m, h => by
    simp only [List.length_cons] at hl
    by_cases hc : c = 39
    · subst hc
      have hend : ∀ Y : List Nat, textS (39 :: 32 :: Y) = some ([], 1) := fun Y => textS_end rfl (by rintro d r' h; cases h; decide)
      cases r with
      | nil =>
        rw [textS_end rfl (by rintro d r' h; cases h)] at h
        cases h
        exact hend X
      | cons d r =>
        by_cases hd : d = 39
        · subst hd
          rw [textS_two] at h
          simp only [Option.map_eq_some_iff] at h
          obtain ⟨⟨o, q⟩, h1, h2⟩ := h
          cases h2
          have ih := textS_again X n r (by simp at hl; omega) o q h1
          simp only [List.take_succ_cons,List.cons_append]
          rw [textS_two, ih]
          rfl
        · rw [textS_end rfl (by rintro d' r' h; cases h; exact hd)] at h
          cases h
          exact hend X
    · rw [textS_other hc] at h
      simp only [Option.map_eq_some_iff] at h
      obtain ⟨⟨o, q⟩, h1, h2⟩ := h
      cases h2
      have ih := textS_again X n r (by omega) o q h1
      simp only [List.take_succ_cons,List.cons_append]
      rw [textS_other hc, ih]
      rfl

theorem numTok_len {w : List Nat} {kind n : Nat} {a1 a2 : V} (h : numTok w = .ok kind n a1 a2) : n = w.length := by
  rw [numTok] at h
  split at h
  · simp only [TR.ok.injEq] at h; exact h.2.1.symm
  · cases h
theorem nameTok_len {w : List Nat} {kind n : Nat} {a1 a2 : V} (h : nameTok w = .ok kind n a1 a2) : n = w.length := by
  rw [nameTok] at h
  split at h
  · cases h
  · simp only [TR.ok.injEq] at h; exact h.2.1.symm

theorem tok_again {c : Nat} {r : List Nat} {kind n : Nat} {a1 a2 : V} (h : tokenS (c :: r) = .ok kind n a1 a2) (X : List Nat) : tokenS ((c :: r).take n ++ 32 :: X) = .ok kind n a1 a2 := by
  have h0 := h
  rw [tokenS] at h
  split at h
  · rename_i hc
    have hn := numTok_len h
    have ht : (c :: r).take n = c :: r.takeWhile numC := by rw [hn, List.length_cons, List.take_succ_cons, take_while_len]
    rw [ht, List.cons_append, tokenS, if_pos hc, tw_again rfl X r]
    exact h
  rename_i hc1
  split at h
  · rename_i hc
    have ht := h
    rw [textTok] at h
    split at h
    · cases h
    · rename_i out m hte
      have hn : n = m + 1 := by
        split at h
        · simp only [TR.ok.injEq] at h; omega
        · simp only [TR.ok.injEq] at h; omega
      rw [hn, List.take_succ_cons, List.cons_append, tokenS, if_neg hc1, if_pos hc]
      rw [hn, textTok, hte] at ht
      rw [textTok, textS_again X _ r (Nat.le_refl _) out m hte]
      exact ht
  rename_i hc2
  split at h
  · rename_i hc
    have hn := nameTok_len h
    have ht : (c :: r).take n = c :: r.takeWhile nameC := by rw [hn, List.length_cons, List.take_succ_cons, take_while_len]
    rw [ht, List.cons_append, tokenS, if_neg hc1, if_neg hc2, if_pos hc, tw_again rfl X r]
    exact h
  rename_i hc3
  split at h
  · rename_i hc
    have hn : n = (r.takeWhile quadC).length + 1 := by simp only [TR.ok.injEq] at h; omega
    have ht : (c :: r).take n = c :: r.takeWhile quadC := by rw [hn, List.take_succ_cons, take_while_len]
    rw [ht, List.cons_append, tokenS, if_neg hc1, if_neg hc2, if_neg hc3, if_pos hc, tw_again rfl X r]
    exact h
  rename_i hc4
  split at h
  · rename_i hc
    have hn : n = 1 := by simp only [TR.ok.injEq] at h; omega
    rw [hn] at h ⊢
    rw [show (c :: r).take 1 = [c] from rfl, List.cons_append, tokenS, if_neg hc1, if_neg hc2, if_neg hc3, if_neg hc4, if_pos hc]
    exact h
  rename_i hc5
  split at h
  · rename_i hc
    have hn : n = 1 := by simp only [TR.ok.injEq] at h; omega
    rw [hn] at h ⊢
    rw [show (c :: r).take 1 = [c] from rfl, List.cons_append, tokenS, if_neg hc1, if_neg hc2, if_neg hc3, if_neg hc4, if_neg hc5, if_pos hc]
    exact h
  · cases h

/-! ### Lines, read again -/
def textOf (t : List V) : List UInt8 := match t with
  | [_, .str s, _, _, _] => s
  | _ => []
def joinB (ts : List (List V)) : List UInt8 := (ts.map fun t => textOf t ++ [32]).flatten
theorem joinB_cons (t : List V) (ts : List (List V)) : joinB (t :: ts) = textOf t ++ [32] ++ joinB ts := by simp [joinB]

/-- The same token, but for its place. -/
def Mat (t t' : List V) : Prop := ∃ kind text i i' a1 a2, t = tokC kind text i a1 a2 ∧ t' = tokC kind text i' a1 a2 ∧ ArrOK a1 a2
inductive Mats : List (List V) → List (List V) → Prop
  | nil : Mats [] []
  | cons {t t' : List V} {ts ts' : List (List V)} : Mat t t' → Mats ts ts' → Mats (t :: ts) (t' :: ts')

theorem dropWhile_head {p : Nat → Bool} : ∀ {l : List Nat} {c : Nat} {r : List Nat}, l.dropWhile p = c :: r → p c = false ∧ (∀ x ∈ c :: r, x ∈ l)
  | [], c, r, h => by cases h
  | x :: l, c, r, h => by
    rw [List.dropWhile_cons] at h
    split at h
    · obtain ⟨h1, h2⟩ := dropWhile_head h
      exact ⟨h1, fun y hy => List.mem_cons_of_mem _ (h2 y hy)⟩
    · rename_i hx
      cases h
      exact ⟨by simpa using hx, fun y hy => hy⟩

theorem ok32 : charOK 32 := .inl (by decide)
theorem encs32 : encs [32] = [32] := by
  have h := encL1 ok32 (by decide)
  show (encL ((32 : Nat) : Int) ++ []) = [32]
  rw [List.append_nil, h]
  rfl

theorem relex : ∀ (n i : Nat) (l : List Nat) (ts : List (List V)), (∀ c ∈ l, charOK c) → l.length ≤ 1024 → l.length < n → lexL n i l = .ok ts →
    ∃ js : List Nat, joinB ts = encs js ∧ js.length ≤ 2 * l.length + 1 ∧ (∀ c ∈ js, charOK c) ∧ ∀ i', ∃ ts', lexL (js.length + 1) i' js = .ok ts' ∧ Mats ts ts'
  | 0, i, l, ts, _, _, hn, _ => absurd hn (Nat.not_lt_zero _)
  | n + 1, i, l, ts, hl, hlen, hn, h => by
    have fin : ∀ j, ∃ js : List Nat, joinB [endTok j] = encs js ∧ js.length ≤ 2 * l.length + 1 ∧ (∀ c ∈ js, charOK c) ∧ ∀ i', ∃ ts', lexL (js.length + 1) i' js = .ok ts' ∧ Mats [endTok j] ts' := by
      intro j
      refine ⟨[32], by rw [encs32]; rfl, by simp, fun c hc => by rw [List.mem_singleton.1 hc]; exact ok32, fun i' => ⟨[endTok (i' + 1)], ?_, .cons ⟨0, [], _, _, nilV, nilV, rfl, rfl, arr_nil⟩ .nil⟩⟩
      rw [show [32].length + 1 = 1 + 1 from rfl, lex_blank]
      rfl
    have hdl := dropWhile_len (p := blankC) l
    rw [lexL] at h
    cases hdw : l.dropWhile blankC with
    | nil =>
      rw [hdw] at h
      cases h
      exact fin _
    | cons c r =>
      rw [hdw] at h
      simp only at h
      obtain ⟨hb, hsub⟩ := dropWhile_head hdw
      by_cases hc : c = 9053
      · rw [if_pos hc] at h
        cases h
        exact fin _
      · rw [if_neg hc] at h
        rw [hdw] at hdl
        cases htok : tokenS (c :: r) with
        | err e => rw [htok] at h; cases h
        | ok kind k a1 a2 =>
          rw [htok] at h
          simp only at h
          have hk := tokenS_n htok
          cases hrec : lexL n (i + (l.takeWhile blankC).length + k) ((c :: r).drop k) with
          | error x => rw [hrec] at h; cases h
          | ok ts1 =>
            rw [hrec] at h
            simp only [Except.ok.injEq] at h
            subst h
            have hlen2 : ((c :: r).drop k).length + k = (c :: r).length := by rw [List.length_drop]; omega
            obtain ⟨js1, hj1, hjl, hj2, hj3⟩ := relex n _ _ ts1 (fun x hx => hl x (hsub x (List.mem_of_mem_drop hx))) (by omega) (by omega) hrec
            have hwl : ((c :: r).take k).length = k := by rw [List.length_take]; omega
            refine ⟨(c :: r).take k ++ 32 :: js1, ?_, by rw [List.length_append, hwl, List.length_cons]; omega, ?_, ?_⟩
            · rw [joinB_cons, hj1, encs_app, show (32 :: js1) = [32] ++ js1 from rfl, encs_app, encs32, List.append_assoc]
              rfl
            · intro x hx
              rcases List.mem_append.1 hx with hx | hx
              · exact hl x (hsub x (List.mem_of_mem_take hx))
              · rcases List.mem_cons.1 hx with rfl | hx
                · exact ok32
                · exact hj2 x hx
            · intro i'
              obtain ⟨ts1', hl1, hm⟩ := hj3 (i' + k + 1)
              obtain ⟨w, hw⟩ : ∃ w, (c :: r).take k = c :: w := by
                cases k with
                | zero => omega
                | succ k => exact ⟨_, List.take_succ_cons⟩
              have htk : ((c :: r).take k ++ 32 :: js1).take k = (c :: r).take k := by
                rw [List.take_append_of_le_length (by omega), List.take_of_length_le (by omega)]
              have hdk : ((c :: r).take k ++ 32 :: js1).drop k = 32 :: js1 := by
                rw [List.drop_append_of_le_length (by omega), List.drop_of_length_le (by omega), List.nil_append]
              have hstep := lex_step (n := ((c :: r).take k ++ 32 :: js1).length) (i := i') (l := (c :: r).take k ++ 32 :: js1) (c := c) (r := w ++ 32 :: js1) (by rw [hw]; rfl) hb hc (tok_again htok js1)
              rw [hdk, htk] at hstep
              have hln : ((c :: r).take k ++ 32 :: js1).length = (k + js1.length) + 1 := by
                rw [List.length_append, hwl, List.length_cons]; omega
              have hrest : lexL ((c :: r).take k ++ 32 :: js1).length (i' + k) (32 :: js1) = .ok ts1' := by
                rw [hln, lex_blank, lexL_fuel _ (js1.length + 1) _ _ (by omega) (by omega)]
                exact hl1
              rw [hrest] at hstep
              exact ⟨_, hstep, .cons ⟨kind, _, _, _, a1, a2, rfl, rfl, tokenS_arr (by omega) htok⟩ hm⟩
end Fe
