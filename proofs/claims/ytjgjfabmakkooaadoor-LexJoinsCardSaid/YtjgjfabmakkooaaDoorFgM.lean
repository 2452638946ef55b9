/-
  The plain law: what is cut is not cut any more, and joined it is cut the same again; contracts: the laws LexParts, LexJoins; the tables that a row lays. No condition.
-/
import Derived.Test.YtjgjfabmakkooaaDoorFgD
import Derived.Test.YtjgjfabmakkooaaDoorProg
import Derived.Lib.LaidU8
set_option linter.unusedSimpArgs false
set_option linter.unusedVariables false
open Go Go.Proofs
namespace Fe

/-! ### A line's tokens, each with the blanks ahead of it -/
structure Seg where
  b : List Nat
  w : List Nat
  kind : Nat
  a1 : V
  a2 : V
def flatS : List Seg → List Nat
  | [] => []
  | s :: S => s.b ++ s.w ++ flatS S
def blankL (l : List Nat) : Prop := ∀ c ∈ l, blankC c = true
def Lx : List Seg → List Nat → Prop
  | [], _ => True
  | s :: S, T => blankL s.b ∧ tokenS (s.w ++ (flatS S ++ T)) = .ok s.kind s.w.length s.a1 s.a2 ∧ Lx S T
def toksS : Nat → List Seg → List (List V)
  | _, [] => []
  | i, s :: S => tokC s.kind (encs s.w) (i + s.b.length) s.a1 s.a2 :: toksS (i + s.b.length + s.w.length) S

theorem tw_mem {p : Nat → Bool} : ∀ {l : List Nat} {c : Nat}, c ∈ l.takeWhile p → p c = true
  | [], c, h => by simp at h
  | d :: l, c, h => by
    rw [List.takeWhile_cons] at h
    split at h
    · rename_i hd
      rcases List.mem_cons.1 h with rfl | h
      · exact hd
      · exact tw_mem h
    · simp at h
theorem numTok_n {w : List Nat} {kind n : Nat} {a1 a2 : V} (h : numTok w = .ok kind n a1 a2) : n = w.length := by
  rw [numTok] at h
  split at h
  · simp only [TR.ok.injEq] at h; exact h.2.1.symm
  · cases h
theorem nameTok_n {w : List Nat} {kind n : Nat} {a1 a2 : V} (h : nameTok w = .ok kind n a1 a2) : n = w.length := by
  rw [nameTok] at h
  split at h
  · cases h
  · simp only [TR.ok.injEq] at h; exact h.2.1.symm
theorem kind_tok (k : Nat) (t : List UInt8) (i : Nat) (a b : V) : kindOf (tokC k t i a b) = k := by simp [kindOf, tokC]
theorem at_tok (k : Nat) (t : List UInt8) (i : Nat) (a b : V) : atOf (tokC k t i a b) = i := by simp [atOf, tokC]

theorem flatS_app : ∀ A S : List Seg, flatS (A ++ S) = flatS A ++ flatS S
  | [], S => rfl
  | s :: A, S => by rw [List.cons_append, flatS, flatS_app A S, flatS]; simp

theorem tokenS_head {c : Nat} {r : List Nat} {kind n : Nat} {a1 a2 : V} (h : tokenS (c :: r) = .ok kind n a1 a2) : blankC c = false ∧ c ≠ 9053 := by
  have key : ∀ d : Nat, (¬ (isD d = true ∨ d = 175)) → d ≠ 39 → isL d = false → d ≠ 9109 → isP d = false → isS d = false → c ≠ d := by
    rintro d h1 h2 h3 h4 h5 h6 rfl
    rw [tokenS, if_neg h1, if_neg h2, if_neg (by rw [h3]; decide), if_neg h4, if_neg (by rw [h5]; decide), if_neg (by rw [h6]; decide)] at h
    cases h
  have h32 := key 32 (by decide) (by decide) (by decide) (by decide) (by kernel_rfl) (by kernel_rfl)
  have h9 := key 9 (by decide) (by decide) (by decide) (by decide) (by kernel_rfl) (by kernel_rfl)
  have h90 := key 9053 (by decide) (by decide) (by decide) (by decide) (by kernel_rfl) (by kernel_rfl)
  exact ⟨by simp [blankC, h32, h9], h90⟩

theorem blank_app {B : List Nat} (hB : blankL B) {R : List Nat} (hR : ∀ c r, R = c :: r → blankC c = false) : (B ++ R).dropWhile blankC = R ∧ (B ++ R).takeWhile blankC = B := by
  induction B with
  | nil =>
    cases R with
    | nil => exact ⟨rfl, rfl⟩
    | cons c r =>
      have := hR c r rfl
      simp [this]
  | cons b B ih =>
    have hb := hB b (List.mem_cons_self ..)
    obtain ⟨h1, h2⟩ := ih fun c hc => hB c (List.mem_cons_of_mem _ hc)
    simp [hb, h1, h2]

theorem seg_word {w R : List Nat} {kind : Nat} {a1 a2 : V} (h : tokenS (w ++ R) = .ok kind w.length a1 a2) : ∃ c r, w = c :: r ∧ blankC c = false ∧ c ≠ 9053 := by
  have hn := tokenS_n h
  cases w with
  | nil => simp at hn
  | cons c r => exact ⟨c, r, rfl, tokenS_head h⟩

theorem lexL_segs {B E : List Nat} (hB : blankL B) (hE : E = [] ∨ ∃ r, E = 9053 :: r) : ∀ (S : List Seg) (n i : Nat), Lx S (B ++ E) → S.length < n → lexL n i (flatS S ++ (B ++ E)) = .ok (toksS i S ++ [endTok (i + (flatS S).length + B.length)])
  | [], 0, i, _, hn => by simp at hn
  | [], n + 1, i, _, _ => by
    obtain ⟨h1, h2⟩ := blank_app hB (R := E) (by
      rintro c r rfl
      rcases hE with h | ⟨r', h⟩
      · cases h
      · cases h; decide)
    rw [flatS, List.nil_append, lexL, h1, h2]
    rcases hE with rfl | ⟨r, rfl⟩
    · simp [toksS]
    · simp [toksS]
  | s :: S, 0, i, _, hn => by simp at hn
  | s :: S, n + 1, i, h, hn => by
    obtain ⟨hb, ht, hS⟩ := h
    obtain ⟨c, r, hw, hc, hc9⟩ := seg_word ht
    have e : flatS (s :: S) ++ (B ++ E) = s.b ++ (s.w ++ (flatS S ++ (B ++ E))) := by simp [flatS]
    obtain ⟨h1, h2⟩ := blank_app hb (R := s.w ++ (flatS S ++ (B ++ E))) (by
      intro c' r' he
      rw [hw] at he
      cases he
      exact hc)
    rw [e, lexL, h1, h2]
    have ih := lexL_segs hB hE S n (i + s.b.length + s.w.length) hS (by simpa using hn)
    have hd : (s.w ++ (flatS S ++ (B ++ E))).drop s.w.length = flatS S ++ (B ++ E) := List.drop_left
    have htk : (s.w ++ (flatS S ++ (B ++ E))).take s.w.length = s.w := List.take_left
    have hcons : s.w ++ (flatS S ++ (B ++ E)) = c :: (r ++ (flatS S ++ (B ++ E))) := by rw [hw]; rfl
    rw [hcons] at ht hd htk ⊢
    simp only [if_neg hc9,ht,hd,htk,ih,toksS,flatS,y03]
    have : i + s.b.length + s.w.length + (flatS S).length + B.length = i + (s.b ++ s.w ++ flatS S).length + B.length := by simp; omega
    rw [this]

theorem lexL_inv : ∀ (n i : Nat) (l : List Nat) (ts : List (List V)), l.length < n → lexL n i l = .ok ts →
    ∃ S B E, l = flatS S ++ (B ++ E) ∧ Lx S (B ++ E) ∧ blankL B ∧ (E = [] ∨ ∃ r, E = 9053 :: r) ∧ ts = toksS i S ++ [endTok (i + (flatS S).length + B.length)] ∧ S.length ≤ l.length
  | 0, i, l, ts, hn, h => by simp at hn
  | n + 1, i, l, ts, hn, h => by
    have htd : l.takeWhile blankC ++ l.dropWhile blankC = l := List.takeWhile_append_dropWhile
    have hbl : blankL (l.takeWhile blankC) := fun c hc => tw_mem hc
    rw [lexL] at h
    have fin : ∀ E, l.dropWhile blankC = E → (E = [] ∨ ∃ r, E = 9053 :: r) → ∃ S B E, l = flatS S ++ (B ++ E) ∧ Lx S (B ++ E) ∧ blankL B ∧ (E = [] ∨ ∃ r, E = 9053 :: r) ∧ [endTok (i + (l.takeWhile blankC).length)] = toksS i S ++ [endTok (i + (flatS S).length + B.length)] ∧ S.length ≤ l.length := by
      intro E hE hE'
      exact ⟨[], l.takeWhile blankC, E, by rw [← hE]; exact htd.symm, trivial, hbl, hE', by simp [toksS, flatS], by simp⟩
    cases hdw : l.dropWhile blankC with
    | nil => rw [hdw] at h; cases h; exact fin _ hdw (.inl rfl)
    | cons c r =>
      rw [hdw] at h
      simp only at h
      by_cases hc : c = 9053
      · rw [if_pos hc] at h; cases h; subst hc; exact fin _ hdw (.inr ⟨r, rfl⟩)
      · rw [if_neg hc] at h
        cases htok : tokenS (c :: r) with
        | err er => rw [htok] at h; cases h
        | ok kind k a1 a2 =>
          rw [htok] at h
          simp only at h
          have hk := tokenS_n htok
          cases hrec : lexL n (i + (l.takeWhile blankC).length + k) ((c :: r).drop k) with
          | error x => rw [hrec] at h; cases h
          | ok ts1 =>
            rw [hrec] at h
            cases h
            have hdl : ((c :: r).drop k).length = (c :: r).length - k := List.length_drop
            have hll : (l.takeWhile blankC).length + (c :: r).length = l.length := by rw [← hdw, ← List.length_append, htd]
            obtain ⟨S, B, E, h1, h2, h3, h4, h5, h6⟩ := lexL_inv n _ _ ts1 (by omega) hrec
            have hwl : ((c :: r).take k).length = k := by rw [List.length_take]; omega
            have hcr : (c :: r).take k ++ (flatS S ++ (B ++ E)) = c :: r := by rw [← h1, List.take_append_drop]
            refine ⟨⟨l.takeWhile blankC, (c :: r).take k, kind, a1, a2⟩ :: S, B, E, ?_, ⟨hbl, ?_, h2⟩, h3, h4, ?_, ?_⟩
            · rw [flatS, List.append_assoc, List.append_assoc, hcr, ← hdw]; exact htd.symm
            · show tokenS ((c :: r).take k ++ (flatS S ++ (B ++ E))) = .ok kind ((c :: r).take k).length a1 a2
              rw [hcr, htok, hwl]
            · rw [h5]
              simp only [toksS,flatS,hwl,y03,y09]
              have : i + (l.takeWhile blankC).length + k + (flatS S).length + B.length = i + ((l.takeWhile blankC).length + k + (flatS S).length) + B.length := by omega
              rw [this]
            · simp only [y08]; omega

/-! ### A token, with another text behind it -/
def After (R R' : List Nat) : Prop := ∀ c r, R' = c :: r → (∃ r0, R = c :: r0) ∨ c = 32 ∨ c = 8900

theorem tw_ext {p : Nat → Bool} (h32 : p 32 = false) (h89 : p 8900 = false) {R R' : List Nat} (hA : After R R') : ∀ w : List Nat, ((w ++ R).takeWhile p).length = w.length → (w ++ R').takeWhile p = w ∧ (w ++ R).takeWhile p = w
  | [], hl => by
    have hR : R.takeWhile p = [] := List.length_eq_zero_iff.1 hl
    refine ⟨?_, hR⟩
    cases R' with
    | nil => rfl
    | cons c r =>
      have hc : p c = false := by
        rcases hA c r rfl with ⟨r0, rfl⟩ | rfl | rfl
        · cases hp : p c with
          | false => rfl
          | true => rw [List.takeWhile_cons, if_pos hp] at hR; cases hR
        · exact h32
        · exact h89
      simp [hc]
  | d :: w, hl => by
    simp only [y03,List.takeWhile_cons] at hl ⊢
    cases hp : p d with
    | false => rw [hp] at hl; simp at hl
    | true =>
      rw [hp] at hl
      simp only [if_true,y08,Nat.add_right_cancel_iff] at hl ⊢
      obtain ⟨h1, h2⟩ := tw_ext h32 h89 hA w hl
      exact ⟨by rw [h1], by rw [h2]⟩

theorem textS_pos : ∀ (r : List Nat) (out : List Nat) (m : Nat), textS r = some (out, m) → 1 ≤ m
  | [], out, m, h => by cases h
  | c :: r, out, m, h => by
    by_cases hc : c = 39
    · subst hc
      cases r with
      | nil =>
        rw [textS_end rfl (by rintro d r' h; cases h)] at h
        cases h; exact Nat.le_refl _
      | cons d r =>
        by_cases hd : d = 39
        · subst hd
          rw [textS_two] at h
          simp only [Option.map_eq_some_iff] at h
          obtain ⟨⟨o, q⟩, h1, h2⟩ := h
          cases h2; omega
        · rw [textS_end rfl (by rintro d' r' h; cases h; exact hd)] at h
          cases h; exact Nat.le_refl _
    · rw [textS_other hc] at h
      simp only [Option.map_eq_some_iff] at h
      obtain ⟨⟨o, q⟩, h1, h2⟩ := h
      cases h2; omega

theorem textS_ext {R R' : List Nat} (hA : After R R') : ∀ (n : Nat) (w : List Nat), w.length ≤ n → ∀ out, textS (w ++ R) = some (out, w.length) → textS (w ++ R') = some (out, w.length) ∧ ∃ Z, w = Z ++ [39]
  | n, [], hn, out, h => by have := textS_pos _ _ _ h; simp at this
  | 0, c :: w, hn, out, h => by simp at hn
  | n + 1, c :: w, hn, out, h => by
    simp only [y08] at hn
    by_cases hc : c = 39
    · subst hc
      cases w with
      | nil =>
        have hR : ∀ d r', R = d :: r' → d ≠ 39 := by
          rintro d r' rfl rfl
          simp only [y03,y02] at h
          rw [textS_two] at h
          simp only [Option.map_eq_some_iff] at h
          obtain ⟨⟨o, q⟩, h1, h2⟩ := h
          simp at h2
        simp only [y03,y02] at h ⊢
        rw [textS_end rfl hR] at h
        cases h
        refine ⟨textS_end rfl ?_, [], rfl⟩
        intro d r' he
        rcases hA d r' he with ⟨r0, h⟩ | rfl | rfl
        · exact hR d r0 h
        · decide
        · decide
      | cons d w =>
        simp only [y03] at h ⊢
        by_cases hd : d = 39
        · subst hd
          rw [textS_two] at h ⊢
          simp only [Option.map_eq_some_iff] at h
          obtain ⟨⟨o, q⟩, h1, h2⟩ := h
          simp only [Prod.mk.injEq,y08] at h2
          obtain ⟨rfl, h2⟩ := h2
          obtain rfl : q = w.length := by omega
          obtain ⟨i1, Z, i2⟩ := textS_ext hA n w (by simp at hn; omega) o h1
          rw [i1]
          exact ⟨rfl, 39 :: 39 :: Z, by rw [i2]; rfl⟩
        · rw [textS_end rfl (by rintro d' r' h; cases h; exact hd)] at h
          simp at h
    · simp only [y03] at h ⊢
      rw [textS_other hc] at h ⊢
      simp only [Option.map_eq_some_iff] at h
      obtain ⟨⟨o, q⟩, h1, h2⟩ := h
      simp only [Prod.mk.injEq,y08] at h2
      obtain ⟨rfl, h2⟩ := h2
      obtain rfl : q = w.length := by omega
      obtain ⟨i1, Z, i2⟩ := textS_ext hA n w (by omega) o h1
      rw [i1]
      exact ⟨rfl, c :: Z, by rw [i2]; rfl⟩

theorem not_blank {p : Nat → Bool} (h32 : p 32 = false) (h9 : p 9 = false) {c : Nat} (h : p c = true) : blankC c = false := by
  have h1 : c ≠ 32 := by rintro rfl; rw [h32] at h; cases h
  have h2 : c ≠ 9 := by rintro rfl; rw [h9] at h; cases h
  simp [blankC, h1, h2]

theorem last_blank {p : Nat → Bool} (h32 : p 32 = false) (h9 : p 9 = false) {c : Nat} (hc : blankC c = false) {w : List Nat} (h : ∀ x ∈ w, p x = true) : ∃ Z y, c :: w = Z ++ [y] ∧ blankC y = false := by
  rcases List.eq_nil_or_concat w with rfl | ⟨Z, y, rfl⟩
  · exact ⟨[], c, rfl, hc⟩
  · exact ⟨c :: Z, y, by simp, not_blank h32 h9 (h y (by simp))⟩

theorem tok_ext {w R R' : List Nat} {kind : Nat} {a1 a2 : V} (hA : After R R') (h : tokenS (w ++ R) = .ok kind w.length a1 a2) : tokenS (w ++ R') = .ok kind w.length a1 a2 ∧ ∃ Z y, w = Z ++ [y] ∧ blankC y = false := by
  obtain ⟨c, v, rfl, hc, _⟩ := seg_word h
  rw [List.cons_append, tokenS] at h
  rw [List.cons_append, tokenS]
  split at h
  · rename_i hc1
    rw [if_pos hc1]
    have hn := numTok_n h
    simp only [y08,Nat.add_right_cancel_iff] at hn
    obtain ⟨h1, h2⟩ := tw_ext (p := numC) rfl rfl hA v hn.symm
    rw [h2] at h
    rw [h1]
    exact ⟨h, last_blank (p := numC) rfl rfl hc fun x hx => tw_mem (by rw [h2]; exact hx : x ∈ (v ++ R).takeWhile numC)⟩
  rename_i hc1
  rw [if_neg hc1]
  split at h
  · rename_i hc2
    rw [if_pos hc2]
    rw [textTok] at h ⊢
    split at h
    · cases h
    · rename_i out m hte
      have hn : m = v.length := by
        split at h
        · simp only [TR.ok.injEq,y08] at h; omega
        · simp only [TR.ok.injEq,y08] at h; omega
      subst hn
      obtain ⟨h1, Z, h2⟩ := textS_ext hA _ v (Nat.le_refl _) out hte
      rw [h1]
      exact ⟨h, c :: Z, 39, by rw [h2]; rfl, by decide⟩
  rename_i hc2
  rw [if_neg hc2]
  split at h
  · rename_i hc3
    rw [if_pos hc3]
    have hn := nameTok_n h
    simp only [y08,Nat.add_right_cancel_iff] at hn
    obtain ⟨h1, h2⟩ := tw_ext (p := nameC) rfl rfl hA v hn.symm
    rw [h2] at h
    rw [h1]
    exact ⟨h, last_blank (p := nameC) rfl rfl hc fun x hx => tw_mem (by rw [h2]; exact hx : x ∈ (v ++ R).takeWhile nameC)⟩
  rename_i hc3
  rw [if_neg hc3]
  split at h
  · rename_i hc4
    rw [if_pos hc4]
    have hn : ((v ++ R).takeWhile quadC).length = v.length := by simp only [TR.ok.injEq,y08] at h; omega
    obtain ⟨h1, h2⟩ := tw_ext (p := quadC) rfl rfl hA v hn
    rw [h2] at h
    rw [h1]
    exact ⟨h, last_blank (p := quadC) rfl rfl hc fun x hx => tw_mem (by rw [h2]; exact hx : x ∈ (v ++ R).takeWhile quadC)⟩
  rename_i hc4
  rw [if_neg hc4]
  split at h
  · rename_i hc5
    rw [if_pos hc5]
    have hn : v = [] := by simp only [TR.ok.injEq,y08] at h; exact List.length_eq_zero_iff.1 (by omega)
    subst hn
    exact ⟨h, [], c, rfl, hc⟩
  rename_i hc5
  rw [if_neg hc5]
  split at h
  · rename_i hc6
    rw [if_pos hc6]
    have hn : v = [] := by simp only [TR.ok.injEq,y08] at h; exact List.length_eq_zero_iff.1 (by omega)
    subst hn
    exact ⟨h, [], c, rfl, hc⟩
  · cases h

theorem After.ext {R R' : List Nat} (hA : After R R') : ∀ X : List Nat, After (X ++ R) (X ++ R')
  | [] => hA
  | x :: X => fun c r h => by cases h; exact .inl ⟨_, rfl⟩
theorem Lx_ext {R R' : List Nat} (hA : After R R') : ∀ S : List Seg, Lx S R → Lx S R'
  | [], _ => trivial
  | s :: S, ⟨h1, h2, h3⟩ => ⟨h1, (tok_ext (hA.ext _) h2).1, Lx_ext hA S h3⟩
theorem Lx_app {T : List Nat} : ∀ {A S : List Seg}, Lx (A ++ S) T ↔ Lx A (flatS S ++ T) ∧ Lx S T
  | [], S => by simp [Lx]
  | s :: A, S => by simp only [y03,Lx,Lx_app (A := A),flatS_app,List.append_assoc,and_assoc]
theorem Lx_last {R : List Nat} : ∀ {S : List Seg}, Lx S R → S ≠ [] → ∃ Z y, flatS S = Z ++ [y] ∧ blankC y = false
  | [], _, h => absurd rfl h
  | [s], ⟨h1, h2, h3⟩, _ => by
    obtain ⟨_, Z, y, h, hy⟩ := tok_ext (R' := []) (by rintro c r h; cases h) h2
    exact ⟨s.b ++ Z, y, by simp [flatS, h], hy⟩
  | s :: t :: S, ⟨h1, h2, h3⟩, _ => by
    obtain ⟨Z, y, h, hy⟩ := Lx_last h3 (by simp)
    exact ⟨s.b ++ s.w ++ Z, y, by rw [flatS, h]; simp, hy⟩

def trimA : List Seg → List Seg
  | [] => []
  | s :: S => { s with b := [] } :: S
theorem Lx_trim {R : List Nat} : ∀ {S : List Seg}, Lx S R → Lx (trimA S) R
  | [], _ => trivial
  | s :: S, ⟨h1, h2, h3⟩ => ⟨fun c hc => (List.not_mem_nil hc).elim, h2, h3⟩

/-! ### Blanks cut off -/
theorem blP_of {y : UInt8} (h1 : y.toNat ≠ 32) (h2 : y.toNat ≠ 9) : blP y.toNat = false := by
  simp [blP, inB, h1, h2]
theorem encL_ends (c : Nat) (hc : charOK c) (hb : blankC c = false) : (∃ y Y, encL (c : Int) = y :: Y ∧ blP y.toNat = false) ∧ (∃ Y y, encL (c : Int) = Y ++ [y] ∧ blP y.toNat = false) := by
  have hb' : c ≠ 32 ∧ c ≠ 9 := by simpa [blankC] using hb
  have hcc := hc
  unfold charOK at hcc
  by_cases h1 : c < 128
  · rw [encL1 hc h1]
    have ht : (UInt8.ofNat c).toNat = c := toNat_of (by omega)
    have hp : blP (UInt8.ofNat c).toNat = false := blP_of (by rw [ht]; exact hb'.1) (by rw [ht]; exact hb'.2)
    exact ⟨⟨_, _, rfl, hp⟩, [], _, rfl, hp⟩
  have big : ∀ n, 128 ≤ n → n < 256 → blP (UInt8.ofNat n).toNat = false := fun n h1 h2 => by
    have ht : (UInt8.ofNat n).toNat = n := toNat_of h2
    exact blP_of (by rw [ht]; omega) (by rw [ht]; omega)
  by_cases h2 : c < 2048
  · rw [encL2 hc h1 h2]
    exact ⟨⟨_, _, rfl, big _ (by omega) (by omega)⟩, [_], _, rfl, big _ (by omega) (by omega)⟩
  by_cases h3 : c < 65536
  · rw [encL3 hc h1 h2 h3]
    exact ⟨⟨_, _, rfl, big _ (by omega) (by omega)⟩, [_, _], _, rfl, big _ (by omega) (by omega)⟩
  · rw [encL4 hc h1 h2 h3]
    exact ⟨⟨_, _, rfl, big _ (by omega) (by omega)⟩, [_, _, _], _, rfl, big _ (by omega) (by omega)⟩

theorem blank_bytes : ∀ B : List Nat, blankL B → ∀ c ∈ encs B, blP c.toNat = true
  | [], _, c, hc => by simp [encs] at hc
  | b :: B, h, c, hc => by
    rw [encs_cons, List.mem_append] at hc
    rcases hc with hc | hc
    · have hb : b = 32 ∨ b = 9 := by simpa [blankC] using h b (List.mem_cons_self ..)
      rcases hb with rfl | rfl
      · rw [encL1 (by unfold charOK; omega) (by omega)] at hc
        rw [List.mem_singleton.1 hc]; decide
      · rw [encL1 (by unfold charOK; omega) (by omega)] at hc
        rw [List.mem_singleton.1 hc]; decide
    · exact blank_bytes B (fun c hc => h c (List.mem_cons_of_mem _ hc)) c hc
theorem dw_all {p : UInt8 → Bool} {X : List UInt8} : ∀ Y : List UInt8, (∀ c ∈ Y, p c = true) → (Y ++ X).dropWhile p = X.dropWhile p
  | [], _ => rfl
  | c :: Y, h => by
    rw [List.cons_append, List.dropWhile_cons, if_pos (h c (List.mem_cons_self ..))]
    exact dw_all Y fun c hc => h c (List.mem_cons_of_mem _ hc)
theorem rtrim_all {p : Nat → Bool} {X Y : List UInt8} (h : ∀ c ∈ Y, p c.toNat = true) : rtrim p (X ++ Y) = rtrim p X := by
  simp only [rtrim,List.reverse_append]
  rw [dw_all (p := fun c => p c.toNat) Y.reverse fun c hc => h c (by simpa using hc)]

theorem trim_words {B M B' : List Nat} (hB : blankL B) (hB' : blankL B') (hM : M = [] ∨ ((∃ c r, M = c :: r ∧ charOK c ∧ blankC c = false) ∧ ∃ Z y, M = Z ++ [y] ∧ charOK y ∧ blankC y = false)) : trimS (encs (B ++ (M ++ B'))) = encs M := by
  have b1 := blank_bytes B hB
  have b2 := blank_bytes B' hB'
  rw [encs_app, encs_app, trimS, ← List.append_assoc, rtrim_all b2]
  rcases hM with rfl | ⟨⟨c, r, h1, hc, hb⟩, Z, y, h2, hy, hyb⟩
  · rw [show encs [] = [] from rfl, List.append_nil]
    have := rtrim_all (X := []) b1
    rw [List.nil_append] at this
    rw [this]
    rfl
  · obtain ⟨_, Y, u, hu, hup⟩ := encL_ends y hy hyb
    have e1 : encs M = encs Z ++ Y ++ [u] := by rw [h2, encs_app, encs_cons, hu]; simp [encs]
    have e2 : rtrim blP (encs B ++ encs M) = encs B ++ encs M := by
      rw [e1, ← List.append_assoc, rtrim_snoc, if_neg (by rw [hup]; decide)]
    rw [e2, ltrim, dw_all (p := fun c => blP c.toNat) _ b1]
    obtain ⟨⟨v, Y', hv, hvp⟩, _⟩ := encL_ends c hc hb
    rw [h1, encs_cons, hv, List.cons_append, List.dropWhile_cons, if_neg (by simp [hvp])]

theorem trim_part {A : List Seg} {R B : List Nat} (hL : Lx A R) (hB : blankL B) (hch : ∀ c ∈ flatS A, charOK c) : trimS (encs (flatS A ++ B)) = encs (flatS (trimA A)) := by
  cases A with
  | nil =>
    have := trim_words (B := []) (M := []) (fun c hc => (List.not_mem_nil hc).elim) hB (.inl rfl)
    simpa [flatS, trimA] using this
  | cons s S =>
    obtain ⟨Z, y, hl, hy⟩ := Lx_last (Lx_trim hL) (by simp [trimA])
    obtain ⟨h1, h2, h3⟩ := hL
    obtain ⟨c, r, hw, hc, _⟩ := seg_word h2
    have hf : flatS (trimA (s :: S)) = s.w ++ flatS S := by simp [trimA, flatS]
    have e : flatS (s :: S) ++ B = s.b ++ (flatS (trimA (s :: S)) ++ B) := by rw [hf]; simp [flatS]
    rw [e]
    have hin : ∀ x ∈ flatS (trimA (s :: S)), charOK x := fun x hx => hch x (by rw [hf] at hx; rw [flatS]; simp only [List.mem_append] at hx ⊢; rcases hx with h | h <;> simp [h])
    refine trim_words h1 hB (.inr ⟨⟨c, r ++ flatS S, by rw [hf, hw]; rfl, hin c (by rw [hf, hw]; simp), hc⟩, Z, y, hl, hin y (by rw [hl]; simp), hy⟩)

/-! ### Where a line is cut, by its tokens -/
def cutS (B : List Nat) : List Seg → Nat → List Seg → List (List Seg × List Nat)
  | A, o, [] => [(A, B)]
  | A, o, s :: S =>
    if encs s.w = diaB ∧ o = 0 then (A, s.b) :: cutS B [] o S
    else if encs s.w = [123] then cutS B (A ++ [s]) (o + 1) S
    else if encs s.w = [125] then cutS B (A ++ [s]) (o - 1) S
    else cutS B (A ++ [s]) o S

theorem dia_one {w : List Nat} (hch : ∀ c ∈ w, charOK c) (h : encs w = diaB) : w.length = 1 := by
  have : rn (encs w) = rn diaB := by rw [h]
  rw [rn_encs w hch] at this
  rw [this]
  rfl

theorem flatS_snoc (A : List Seg) (s : Seg) : flatS (A ++ [s]) = flatS A ++ (s.b ++ s.w) := by rw [flatS_app]; simp [flatS]

theorem splitL_cut {B E : List Nat} (rs : List Nat) : ∀ (S A : List Seg) (o fr : Nat) (pre : List Nat) (i j : Nat), pre.length = fr → i = fr + (flatS A).length → j = i + (flatS S).length + B.length → rs = pre ++ (flatS A ++ (flatS S ++ (B ++ E))) → Lx S (B ++ E) → (∀ c ∈ flatS S, charOK c) →
    splitL rs fr o (toksS i S ++ [endTok j]) = (cutS B A o S).map fun p => trimS (encs (flatS p.1 ++ p.2))
  | [], A, o, fr, pre, i, j, hp, hi, hj, hrs, hL, hch => by
    subst hp; subst hi; subst hj
    have e0 : kindOf (endTok (pre.length + (flatS A).length + (flatS []).length + B.length)) = 0 := rfl
    have ea : atOf (endTok (pre.length + (flatS A).length + (flatS []).length + B.length)) = pre.length + (flatS A).length + (flatS []).length + B.length := at_tok _ _ _ _ _
    have hd : rs.drop pre.length = (flatS A ++ B) ++ E := by rw [hrs, List.drop_left]; simp [flatS]
    rw [toksS, List.nil_append, splitL, e0, if_pos (.inl rfl), ea, hd, splitL, cutS]
    have : pre.length + (flatS A).length + (flatS []).length + B.length - pre.length = (flatS A ++ B).length := by simp [flatS]; omega
    rw [this, List.take_left]
    rfl
  | s :: S, A, o, fr, pre, i, j, hp, hi, hj, hrs, hL, hch => by
    obtain ⟨hb, ht, hS⟩ := hL
    have hk := (tokenS_kind ht).1
    have ekind : kindOf (tokC s.kind (encs s.w) (i + s.b.length) s.a1 s.a2) = s.kind := kind_tok _ _ _ _ _
    have etxt : txtOf (tokC s.kind (encs s.w) (i + s.b.length) s.a1 s.a2) = encs s.w := rfl
    have eat : atOf (tokC s.kind (encs s.w) (i + s.b.length) s.a1 s.a2) = i + s.b.length := at_tok _ _ _ _ _
    have hchw : ∀ c ∈ s.w, charOK c := fun c hc => hch c (by simp [flatS, hc])
    have hchS : ∀ c ∈ flatS S, charOK c := fun c hc => hch c (by simp [flatS, hc])
    have hfl : (flatS (s :: S)).length = s.b.length + s.w.length + (flatS S).length := by simp [flatS]; omega
    rw [toksS, List.cons_append, splitL, ekind, etxt, eat, cutS]
    have step : ∀ o', splitL rs fr o' (toksS (i + s.b.length + s.w.length) S ++ [endTok j]) = (cutS B (A ++ [s]) o' S).map fun p => trimS (encs (flatS p.1 ++ p.2)) := fun o' =>
      splitL_cut rs S (A ++ [s]) o' fr pre _ j hp (by rw [flatS_snoc]; simp; omega) (by omega) (by rw [hrs, flatS_snoc]; simp [flatS]) hS hchS
    by_cases h : encs s.w = diaB ∧ o = 0
    · rw [if_pos (.inr h), if_pos h, List.map_cons]
      have hw1 := dia_one hchw h.1
      have hd : rs.drop fr = (flatS A ++ s.b) ++ (s.w ++ (flatS S ++ (B ++ E))) := by rw [hrs, ← hp, List.drop_left]; simp [flatS]
      have : i + s.b.length - fr = (flatS A ++ s.b).length := by rw [List.length_append]; omega
      rw [hd, this, List.take_left]
      have hrec := splitL_cut rs S [] o (i + s.b.length + 1) (pre ++ (flatS A ++ (s.b ++ s.w))) (i + s.b.length + s.w.length) j (by simp only [y09]; omega) (by simp only [flatS,y07]; omega) (by omega) (by rw [hrs]; simp [flatS]) hS hchS
      rw [hrec]
    · rw [if_neg (by
        rintro (h0 | h0)
        · omega
        · exact h h0), if_neg h]
      by_cases h1 : encs s.w = [123]
      · rw [if_pos h1, if_pos h1]; exact step _
      · rw [if_neg h1, if_neg h1]
        by_cases h2 : encs s.w = [125]
        · rw [if_pos h2, if_pos h2]; exact step _
        · rw [if_neg h2, if_neg h2]; exact step _

def stepS (o : Nat) (s : Seg) : Option Nat := if encs s.w = diaB ∧ o = 0 then none else if encs s.w = [123] then some (o + 1) else if encs s.w = [125] then some (o - 1) else some o
def depthS : Nat → List Seg → Option Nat
  | o, [] => some o
  | o, s :: S => (stepS o s).bind fun o' => depthS o' S
theorem depth_snoc (s : Seg) : ∀ (A : List Seg) (o : Nat), depthS o (A ++ [s]) = (depthS o A).bind fun o' => stepS o' s
  | [], o => by
    simp only [y02,depthS,z44]
    cases stepS o s <;> rfl
  | t :: A, o => by
    simp only [y03,depthS]
    cases stepS o t with
    | none => rfl
    | some o' => simp only [z44]; exact depth_snoc s A o'
theorem depth_trim (o : Nat) : ∀ A : List Seg, depthS o (trimA A) = depthS o A
  | [] => rfl
  | s :: S => rfl

inductive CutL : List (List Seg) → Prop
  | one {A : List Seg} {o : Nat} : depthS 0 A = some o → CutL [A]
  | cons {A : List Seg} {L : List (List Seg)} : depthS 0 A = some 0 → CutL L → CutL (A :: L)

theorem parts_cut (B : List Nat) : ∀ (S A : List Seg) (o : Nat), depthS 0 A = some o → CutL ((cutS B A o S).map fun p => trimA p.1)
  | [], A, o, h => by
    rw [cutS]
    exact .one (by rw [depth_trim]; exact h)
  | s :: S, A, o, h => by
    have hs : depthS 0 (A ++ [s]) = stepS o s := by rw [depth_snoc, h]; rfl
    rw [cutS]
    rw [stepS] at hs
    by_cases h0 : encs s.w = diaB ∧ o = 0
    · rw [if_pos h0, List.map_cons]
      exact .cons (by rw [depth_trim, h, h0.2]) (parts_cut B S [] o (by rw [h0.2]; rfl))
    · rw [if_neg h0] at hs ⊢
      by_cases h1 : encs s.w = [123]
      · rw [if_pos h1] at hs ⊢; exact parts_cut B S _ _ hs
      · rw [if_neg h1] at hs ⊢
        by_cases h2 : encs s.w = [125]
        · rw [if_pos h2] at hs ⊢; exact parts_cut B S _ _ hs
        · rw [if_neg h2] at hs ⊢; exact parts_cut B S _ _ hs

theorem cut_depth (B : List Nat) (R : List Seg) : ∀ (S A : List Seg) (o o' : Nat), depthS o S = some o' → cutS B A o (S ++ R) = cutS B (A ++ S) o' R
  | [], A, o, o', h => by cases h; simp
  | s :: S, A, o, o', h => by
    rw [depthS] at h
    rw [List.cons_append, cutS]
    have hst : ∀ x, depthS x S = some o' → cutS B (A ++ [s]) x (S ++ R) = cutS B (A ++ s :: S) o' R := fun x hx => by
      rw [cut_depth B R S _ x o' hx]; simp
    rw [stepS] at h
    by_cases h0 : encs s.w = diaB ∧ o = 0
    · rw [if_pos h0] at h; cases h
    · rw [if_neg h0] at h ⊢
      by_cases h1 : encs s.w = [123]
      · rw [if_pos h1] at h ⊢; exact hst _ h
      · rw [if_neg h1] at h ⊢
        by_cases h2 : encs s.w = [125]
        · rw [if_pos h2] at h ⊢; exact hst _ h
        · rw [if_neg h2] at h ⊢; exact hst _ h

def diaS : Seg := ⟨[], [8900], 6, nilV, nilV⟩
theorem dia_enc : encs [8900] = diaB := by decide
def joinS : List (List Seg) → List Seg
  | [] => []
  | [A] => A
  | A :: A' :: L => A ++ diaS :: joinS (A' :: L)
theorem joinS_cons (A : List Seg) {L : List (List Seg)} (h : L ≠ []) : joinS (A :: L) = A ++ diaS :: joinS L := by
  cases L with
  | nil => exact absurd rfl h
  | cons A' L => rfl
theorem CutL.ne {L : List (List Seg)} (h : CutL L) : L ≠ [] := by cases h <;> simp

theorem cut_parts : ∀ {L : List (List Seg)}, CutL L → cutS [] [] 0 (joinS L) = L.map fun A => (A, [])
  | _, .one h => by
    rename_i A o
    have := cut_depth [] [] A [] 0 o h
    simp only [List.append_nil,y02] at this
    rw [joinS, this, cutS]
    rfl
  | _, .cons h hL => by
    rename_i A L
    have hd : encs diaS.w = diaB ∧ 0 = 0 := ⟨dia_enc, rfl⟩
    rw [joinS_cons A hL.ne, cut_depth [] _ A [] 0 0 h, List.nil_append, cutS, if_pos hd, cut_parts hL]
    rfl

theorem cutS_len (B : List Nat) : ∀ (S A : List Seg) (o : Nat), (cutS B A o S).length ≤ S.length + 1
  | [], A, o => by rw [cutS]; simp
  | s :: S, A, o => by
    rw [cutS]
    have h := fun A o => cutS_len B S A o
    repeat' split
    · have := h [] o; simp only [y08]; omega
    · have := h (A ++ [s]) (o + 1); simp only [y08]; omega
    · have := h (A ++ [s]) (o - 1); simp only [y08]; omega
    · have := h (A ++ [s]) o; simp only [y08]; omega

theorem cut_ok {B T : List Nat} (hB : blankL B) (N : Nat) : ∀ (S A : List Seg) (o : Nat), Lx (A ++ S) T → (∀ c ∈ flatS (A ++ S), charOK c) → (encs (flatS (A ++ S))).length ≤ N → ∀ p ∈ cutS B A o S, (∃ R, Lx p.1 R) ∧ blankL p.2 ∧ (∀ c ∈ flatS p.1, charOK c) ∧ (encs (flatS p.1)).length ≤ N
  | [], A, o, h1, h2, h3, p, hp => by
    rw [cutS] at hp
    rw [List.append_nil] at h1 h2 h3
    rw [List.mem_singleton.1 hp]
    exact ⟨⟨_, h1⟩, hB, h2, h3⟩
  | s :: S, A, o, h1, h2, h3, p, hp => by
    have e : A ++ s :: S = (A ++ [s]) ++ S := by simp
    rw [cutS] at hp
    have go := fun o' => cut_ok hB N S (A ++ [s]) o' (e ▸ h1) (e ▸ h2) (e ▸ h3) p
    by_cases h0 : encs s.w = diaB ∧ o = 0
    · rw [if_pos h0] at hp
      rw [flatS_app, encs_app, List.length_append] at h3
      rw [flatS_app] at h2
      obtain ⟨l1, l2⟩ := Lx_app.1 h1
      rcases List.mem_cons.1 hp with rfl | hp
      · exact ⟨⟨_, l1⟩, l2.1, fun c hc => h2 c (List.mem_append_left _ hc), (by omega : (encs (flatS A)).length ≤ N)⟩
      · have h2' : ∀ c ∈ flatS S, charOK c := fun c hc => h2 c (by simp [flatS, hc])
        have h3' : (encs (flatS S)).length ≤ N := by rw [flatS, encs_app, List.length_append] at h3; omega
        exact cut_ok hB N S [] o l2.2.2 h2' h3' p hp
    · rw [if_neg h0] at hp
      by_cases q1 : encs s.w = [123]
      · rw [if_pos q1] at hp; exact go _ hp
      · rw [if_neg q1] at hp
        by_cases q2 : encs s.w = [125]
        · rw [if_pos q2] at hp; exact go _ hp
        · rw [if_neg q2] at hp; exact go _ hp

/-! ### How long the characters are, written anew -/
theorem encL_le (c : Nat) (hc : charOK c) : (c < 128 → (encL (c : Int)).length = 1) ∧ (c < 2048 → (encL (c : Int)).length ≤ 2) ∧ (c < 65536 → (encL (c : Int)).length ≤ 3) ∧ (encL (c : Int)).length ≤ 4 := by
  by_cases h1 : c < 128
  · rw [encL1 hc h1]; simp
  by_cases h2 : c < 2048
  · rw [encL2 hc h1 h2]; simp; omega
  by_cases h3 : c < 65536
  · rw [encL3 hc h1 h2 h3]; simp; omega
  · rw [encL4 hc h1 h2 h3]; simp; omega

theorem decL_len (s : List UInt8) : ((decL s).1 = 65533 ∧ (decL s).2 = 1) ∨ (encL ((decL s).1 : Int)).length ≤ (decL s).2 := by
  have hc := decL_ok s
  have hb : ∀ k, (s.getD k 0).toNat < 256 := fun k => UInt8.toNat_lt _
  have h := encL_le (decL s).1 hc
  obtain ⟨h1, h2, h3, h4⟩ := h
  revert hc h1 h2 h3 h4
  have e : Utf8.runeError = 65533 := rfl
  unfold decL
  simp only
  split
  · rename_i hx; intro _ h1 _ _ _; exact .inr (Nat.le_of_eq (h1 hx))
  split
  · split
    · have := hb 0; have := hb 1
      intro _ _ h2 _ _
      exact .inr (h2 (by simp only; omega))
    · intros; exact .inl ⟨e, rfl⟩
  split
  · split
    · have := hb 0; have := hb 1; have := hb 2
      intro _ _ _ h3 _
      exact .inr (h3 (by simp only; omega))
    · intros; exact .inl ⟨e, rfl⟩
  split
  · split
    · intro _ _ _ _ h4
      exact .inr h4
    · intros; exact .inl ⟨e, rfl⟩
  · intros; exact .inl ⟨e, rfl⟩

theorem encs_le : ∀ (n : Nat) (s : List UInt8), s.length ≤ n → bad s = none → (encs (rn s)).length ≤ s.length
  | 0, s, hs, _ => by
    obtain rfl := List.length_eq_zero_iff.1 (Nat.le_zero.1 hs)
    exact Nat.le_refl _
  | n + 1, s, hs, hb => by
    by_cases hne : s = []
    · subst hne; exact Nat.le_refl _
    have hw := decL_w hne
    rw [bad_cons' hne] at hb
    split at hb
    · cases hb
    · rename_i hx
      have hdl : (s.drop (decL s).2).length = s.length - (decL s).2 := List.length_drop
      have ih := encs_le n (s.drop (decL s).2) (by omega) (by simpa using hb)
      rw [rn_cons hne, encs_cons, List.length_append]
      rcases decL_len s with h | h
      · exact absurd h hx
      · omega

/-! ### Split's parts, and what is joined -/
theorem joinS_ok : ∀ L : List (List Seg), (∀ A ∈ L, ∃ R, Lx A R) → Lx (joinS L) []
  | [], _ => trivial
  | [A], h => by
    obtain ⟨R, hR⟩ := h A (by simp)
    exact Lx_ext (by rintro c r h; cases h) _ hR
  | A :: A' :: L, h => by
    obtain ⟨R, hR⟩ := h A (by simp)
    have ih := joinS_ok (A' :: L) fun x hx => h x (List.mem_cons_of_mem _ hx)
    have ht : tokenS (diaS.w ++ (flatS (joinS (A' :: L)) ++ [])) = .ok 6 1 nilV nilV := by
      show tokenS (8900 :: (flatS (joinS (A' :: L)) ++ [])) = _
      rw [tokenS, if_neg (by decide), if_neg (by decide), if_neg (by decide), if_neg (by decide), if_neg (by rw [show isP 8900 = false by kernel_rfl]; decide), if_pos (by kernel_rfl)]
    rw [joinS]
    refine Lx_app.2 ⟨Lx_ext ?_ _ hR, ?_, ht, ih⟩
    · intro c r he
      have : flatS (diaS :: joinS (A' :: L)) ++ [] = 8900 :: (flatS (joinS (A' :: L)) ++ []) := rfl
      rw [this] at he
      cases he
      exact .inr (.inr rfl)
    · exact fun c hc => (List.not_mem_nil hc).elim

def partT (A : List Seg) : List UInt8 := encs (flatS A)
def joinT (p : List UInt8) (l : List (List UInt8)) : List UInt8 := p ++ (l.map fun q => diaB ++ q).flatten
theorem joinS_text : ∀ (A : List Seg) (L : List (List Seg)), encs (flatS (joinS (A :: L))) = joinT (partT A) (L.map partT)
  | A, [] => by simp [joinS, joinT, partT]
  | A, A' :: L => by
    have ih := joinS_text A' L
    have hf : flatS (diaS :: joinS (A' :: L)) = [8900] ++ flatS (joinS (A' :: L)) := rfl
    rw [joinS, flatS_app, hf, encs_app, encs_app, ih, dia_enc]
    simp [joinT, partT]
theorem joinS_ch : ∀ L : List (List Seg), (∀ A ∈ L, ∀ c ∈ flatS A, charOK c) → ∀ c ∈ flatS (joinS L), charOK c
  | [], _, c, hc => (List.not_mem_nil hc).elim
  | [A], h, c, hc => h A (by simp) c hc
  | A :: A' :: L, h, c, hc => by
    have ih := joinS_ch (A' :: L) fun x hx => h x (List.mem_cons_of_mem _ hx)
    have hf : flatS (diaS :: joinS (A' :: L)) = [8900] ++ flatS (joinS (A' :: L)) := rfl
    rw [joinS, flatS_app, hf, List.mem_append, List.mem_append, List.mem_singleton] at hc
    rcases hc with hc | rfl | hc
    · exact h A (by simp) c hc
    · unfold charOK; omega
    · exact ih c hc

structure PartOK (A : List Seg) : Prop where
  lx : ∃ R, Lx A R
  ch : ∀ c ∈ flatS A, charOK c
  len : (partT A).length ≤ 1024
  tr : trimA A = A

theorem trim_trim : ∀ A : List Seg, trimA (trimA A) = trimA A
  | [] => rfl
  | s :: S => rfl

/-- Split, of a line's own characters. -/
theorem split_segs {S : List Seg} {B E : List Nat} (s : List UInt8) (hs : s.length ≤ 1024) (hbad : bad s = none) (hrs : rn s = flatS S ++ (B ++ E)) (hL : Lx S (B ++ E)) (hB : blankL B) (hE : E = [] ∨ ∃ r, E = 9053 :: r) (hn : S.length ≤ (rn s).length) (hch : ∀ c ∈ flatS S, charOK c) :
    splitR s = .tup [ssl ((cutS B [] 0 S).map fun p => trimS (encs (flatS p.1 ++ p.2))), .int .i64 0, .int .i64 0] := by
  have hlex := lexL_segs hB hE S ((rn s).length + 1) 0 hL (by omega)
  rw [← hrs] at hlex
  have := splitL_cut (B := B) (E := E) (rn s) S [] 0 0 [] 0 (0 + (flatS S).length + B.length) rfl rfl rfl (by rw [hrs]; simp [flatS]) hL hch
  rw [splitR, if_neg (by omega), hbad]
  simp only [hlex,this]

theorem splitR_cases (s : List UInt8) : (∃ er j : Nat, er ≠ 0 ∧ splitR s = .tup [.sl false [] 0, .int .i64 (er : Nat), .int .i64 (j : Nat)]) ∨
    (∃ L : List (List Seg), CutL L ∧ (∀ A ∈ L, PartOK A) ∧ L.length ≤ 1025 ∧ splitR s = .tup [ssl (L.map partT), .int .i64 0, .int .i64 0]) := by
  by_cases hl : 1024 < s.length
  · exact .inl ⟨25, 0, by decide, by rw [splitR, if_pos hl]; rfl⟩
  cases hbad : bad s with
  | some i => exact .inl ⟨26, i, by decide, by rw [splitR, if_neg hl, hbad]; rfl⟩
  | none =>
    cases hlex : lexL ((rn s).length + 1) 0 (rn s) with
    | error x =>
      obtain ⟨e, j⟩ := x
      exact .inl ⟨e, j, lexL_err _ _ _ _ _ hlex, by rw [splitR, if_neg hl, hbad]; simp only [hlex]⟩
    | ok ts =>
      obtain ⟨S, B, E, h1, h2, h3, h4, h5, h6⟩ := lexL_inv _ 0 (rn s) ts (by omega) hlex
      have hch : ∀ c ∈ flatS S, charOK c := fun c hc => rn_ok _ s c (by
        have : c ∈ rn s := by rw [h1]; exact List.mem_append_left _ hc
        exact this)
      have hlen := encs_le s.length s (Nat.le_refl _) hbad
      rw [h1, encs_app, List.length_append] at hlen
      have ok := cut_ok h3 1024 S [] 0 h2 hch (by rw [List.nil_append]; omega)
      have hcl := cutS_len B S [] 0
      have hrl := rn_len s
      refine .inr ⟨(cutS B [] 0 S).map fun p => trimA p.1, parts_cut B S [] 0 rfl, ?_, by rw [List.length_map]; omega, ?_⟩
      · intro A hA
        obtain ⟨p, hp, rfl⟩ := List.mem_map.1 hA
        obtain ⟨⟨R, k1⟩, k2, k3, k4⟩ := ok p hp
        have hin : ∀ c ∈ flatS (trimA p.1), charOK c := by
          intro c hc
          refine k3 c ?_
          cases hq : p.1 with
          | nil => rw [hq] at hc; exact hc
          | cons t T => rw [hq] at hc; simp only [trimA,flatS,y02,List.mem_append] at hc ⊢; rcases hc with h | h <;> simp [h]
        have hle : (partT (trimA p.1)).length ≤ (encs (flatS p.1)).length := by
          cases hq : p.1 with
          | nil => exact Nat.le_refl _
          | cons t T => simp only [partT,trimA,flatS,y02,encs_app,y09]; omega
        exact ⟨⟨R, Lx_trim k1⟩, hin, by omega, trim_trim _⟩
      · rw [split_segs s (by omega) hbad h1 h2 h3 h4 h6 hch, List.map_map]
        have : ((cutS B [] 0 S).map fun p => trimS (encs (flatS p.1 ++ p.2))) = (cutS B [] 0 S).map (partT ∘ fun p => trimA p.1) := List.map_congr_left fun p hp => by
          obtain ⟨⟨R, k1⟩, k2, k3, k4⟩ := ok p hp
          exact trim_part k1 k2 k3
        rw [this]

theorem Lx_len {T : List Nat} : ∀ {S : List Seg}, Lx S T → S.length ≤ (flatS S).length
  | [], _ => Nat.le_refl _
  | s :: S, ⟨h1, h2, h3⟩ => by
    have := tokenS_n h2
    have := Lx_len h3
    simp only [flatS,y09,y08]
    omega

theorem splitR_join {A : List Seg} {L : List (List Seg)} (hC : CutL (A :: L)) (ok : ∀ A' ∈ A :: L, PartOK A') (hl : (joinT (partT A) (L.map partT)).length ≤ 1024) : splitR (joinT (partT A) (L.map partT)) = .tup [ssl ((A :: L).map partT), .int .i64 0, .int .i64 0] := by
  have hch := joinS_ch (A :: L) fun x hx => (ok x hx).ch
  have hL := joinS_ok (A :: L) fun x hx => (ok x hx).lx
  rw [← joinS_text] at hl ⊢
  have hr := rn_encs _ hch
  have := split_segs (S := joinS (A :: L)) (B := []) (E := []) _ hl (bad_encs _ hch) (by rw [hr]; simp) hL (fun c hc => (List.not_mem_nil hc).elim) (.inl rfl) (by rw [hr]; exact Lx_len hL) hch
  rw [this, cut_parts hC, List.map_map]
  have : (A :: L).map ((fun p : List Seg × List Nat => trimS (encs (flatS p.1 ++ p.2))) ∘ fun A => (A, [])) = (A :: L).map partT := List.map_congr_left fun x hx => by
    obtain ⟨R, hR⟩ := (ok x hx).lx
    have := trim_part (B := []) hR (fun c hc => (List.not_mem_nil hc).elim) (ok x hx).ch
    rw [(ok x hx).tr] at this
    exact this
  rw [this]

theorem splitR_part {A : List Seg} {o : Nat} (h : depthS 0 A = some o) (ok : PartOK A) : splitR (partT A) = .tup [ssl [partT A], .int .i64 0, .int .i64 0] := by
  have := splitR_join (A := A) (L := []) (.one h) (fun x hx => by rw [List.mem_singleton.1 hx]; exact ok) (by simpa [joinT] using ok.len)
  simpa [joinT] using this
theorem CutL.depth : ∀ {L : List (List Seg)}, CutL L → ∀ A ∈ L, ∃ o, depthS 0 A = some o
  | _, .one h, A, hA => by rw [List.mem_singleton.1 hA]; exact ⟨_, h⟩
  | _, .cons h hL, A, hA => by
    rcases List.mem_cons.1 hA with rfl | hA
    · exact ⟨_, h⟩
    · exact hL.depth A hA
end Fe
open Go Go.Proofs
namespace Fe
def b204 : C :=
 (.seq
 (.region false [
 ⟨some 2, .op (.mov (.c (.bool false))), none⟩])
 (.seq
 (.region false [
 ⟨some 11, .op (.mov (.t 0)), none⟩,
 ⟨some 12, .call false (.c (.fn 13 [] [])) [.t 11], none⟩,
 ⟨some 10, .op (.mov (.t 12)), none⟩,
 ⟨some 13, .op (.extract (.t 10) 0), none⟩,
 ⟨some 14, .op (.extract (.t 10) 1), none⟩,
 ⟨some 15, .op (.extract (.t 10) 2), none⟩,
 ⟨some 3, .op (.mov (.t 13)), none⟩,
 ⟨some 4, .op (.mov (.t 14)), none⟩,
 ⟨some 5, .op (.mov (.t 15)), none⟩])
 (.seq
 (.seq
 (.region false [
 ⟨some 16, .op (.mov (.t 4)), none⟩,
 ⟨some 17, .op (.bin 0 .neq (.t 16) (.c (.int .i64 0))), none⟩])
 (.cond (.t 17)
 (.seq
 (.region false [
 ⟨some 18, .call false (.c (.fn 8 [] [])) [], none⟩,
 ⟨some 19, .op (.mov (.t 18)), none⟩,
 ⟨some 20, .op (.mov (.t 3)), some (19, true)⟩,
 ⟨some 21, .op (.len false (.t 20)), some (19, true)⟩,
 ⟨some 22, .op (.bin 0 .eql (.t 21) (.c (.int .i64 0))), some (19, true)⟩,
 ⟨some 23, .op (.pick (.t 19) (.t 22) (.c (.bool false))), none⟩,
 ⟨some 2, .op (.mov (.t 23)), none⟩])
 .ret)
 .skip))
 (.seq
 (.seq
 (.region false [
 ⟨some 6, .op (.mov (.c (.int .i64 0))), none⟩])
 (.block 0
 (.loop
 (.seq
 (.seq
 (.region false [
 ⟨some 24, .op (.mov (.t 6)), none⟩,
 ⟨some 25, .op (.mov (.t 3)), none⟩,
 ⟨some 26, .op (.len false (.t 25)), none⟩,
 ⟨some 27, .op (.bin 0 .lss (.t 24) (.t 26)), none⟩])
 (.cond (.t 27)
 .skip
 (.exit 0)))
 (.seq
 (.block 1
 (.seq
 (.region false [
 ⟨some 31, .op (.mov (.t 3)), none⟩,
 ⟨some 32, .op (.mov (.t 6)), none⟩,
 ⟨some 33, .op (.iaddr 1 (.t 31) (.t 32)), none⟩,
 ⟨some 34, .op (.load false 1 (.t 33)), none⟩,
 ⟨some 35, .call false (.c (.fn 13 [] [])) [.t 34], none⟩,
 ⟨some 30, .op (.mov (.t 35)), none⟩,
 ⟨some 36, .op (.extract (.t 30) 0), none⟩,
 ⟨some 37, .op (.extract (.t 30) 1), none⟩,
 ⟨some 38, .op (.extract (.t 30) 2), none⟩,
 ⟨some 7, .op (.mov (.t 36)), none⟩,
 ⟨some 8, .op (.mov (.t 37)), none⟩,
 ⟨some 9, .op (.mov (.t 38)), none⟩])
 (.seq
 (.region true [
 ⟨some 39, .op (.mov (.t 8)), none⟩,
 ⟨some 40, .op (.bin 0 .neq (.t 39) (.c (.int .i64 0))), none⟩,
 ⟨some 41, .op (.mov (.t 40)), none⟩,
 ⟨some 42, .op (.mov (.t 7)), some (41, false)⟩,
 ⟨some 43, .op (.len false (.t 42)), some (41, false)⟩,
 ⟨some 44, .op (.bin 0 .neq (.t 43) (.c (.int .i64 1))), some (41, false)⟩,
 ⟨some 45, .op (.pick (.t 41) (.c (.bool true)) (.t 44)), none⟩,
 ⟨some 46, .op (.mov (.t 45)), none⟩,
 ⟨some 47, .op (.mov (.t 7)), some (46, false)⟩,
 ⟨some 48, .op (.iaddr 1 (.t 47) (.c (.int .i64 0))), some (46, false)⟩,
 ⟨some 49, .op (.load false 1 (.t 48)), some (46, false)⟩,
 ⟨some 50, .op (.mov (.t 3)), some (46, false)⟩,
 ⟨some 51, .op (.mov (.t 6)), some (46, false)⟩,
 ⟨some 52, .op (.iaddr 1 (.t 50) (.t 51)), some (46, false)⟩,
 ⟨some 53, .op (.load false 1 (.t 52)), some (46, false)⟩,
 ⟨some 54, .op (.bin 0 .neq (.t 49) (.t 53)), some (46, false)⟩,
 ⟨some 55, .op (.pick (.t 46) (.c (.bool true)) (.t 54)), none⟩])
 (.cond (.t 55)
 (.seq
 (.region false [
 ⟨some 2, .op (.mov (.c (.bool false))), none⟩])
 .ret)
 .skip))))
 (.region false [
 ⟨some 28, .op (.mov (.t 6)), none⟩,
 ⟨some 29, .op (.bin 0 .add (.t 28) (.c (.int .i64 1))), none⟩,
 ⟨some 6, .op (.mov (.t 29)), none⟩]))))))
 (.seq
 (.region false [
 ⟨some 56, .call false (.c (.fn 8 [] [])) [], none⟩,
 ⟨some 57, .op (.mov (.t 56)), none⟩,
 ⟨some 58, .op (.mov (.t 3)), some (57, true)⟩,
 ⟨some 59, .op (.len false (.t 58)), some (57, true)⟩,
 ⟨some 60, .op (.bin 0 .gtr (.t 59) (.c (.int .i64 0))), some (57, true)⟩,
 ⟨some 61, .op (.pick (.t 57) (.t 60) (.c (.bool false))), none⟩,
 ⟨some 2, .op (.mov (.t 61)), none⟩])
 .ret)))))
def c204 : CF := ⟨62, 1, [.mov (.t 2)], b204⟩
def b205 : C :=
 (.seq
 (.region false [
 ⟨some 2, .op (.mov (.c (.bool false))), none⟩])
 (.seq
 (.region false [
 ⟨some 13, .op (.mov (.t 0)), none⟩,
 ⟨some 14, .call false (.c (.fn 13 [] [])) [.t 13], none⟩,
 ⟨some 12, .op (.mov (.t 14)), none⟩,
 ⟨some 15, .op (.extract (.t 12) 0), none⟩,
 ⟨some 16, .op (.extract (.t 12) 1), none⟩,
 ⟨some 17, .op (.extract (.t 12) 2), none⟩,
 ⟨some 3, .op (.mov (.t 15)), none⟩,
 ⟨some 4, .op (.mov (.t 16)), none⟩,
 ⟨some 5, .op (.mov (.t 17)), none⟩])
 (.seq
 (.seq
 (.region false [
 ⟨some 18, .op (.mov (.t 4)), none⟩,
 ⟨some 19, .op (.bin 0 .neq (.t 18) (.c (.int .i64 0))), none⟩])
 (.cond (.t 19)
 (.seq
 (.region false [
 ⟨some 20, .call false (.c (.fn 8 [] [])) [], none⟩,
 ⟨some 2, .op (.mov (.t 20)), none⟩])
 .ret)
 .skip))
 (.seq
 (.seq
 (.region false [
 ⟨some 21, .op (.mov (.t 3)), none⟩,
 ⟨some 22, .op (.len false (.t 21)), none⟩,
 ⟨some 23, .op (.bin 0 .eql (.t 22) (.c (.int .i64 0))), none⟩])
 (.cond (.t 23)
 (.seq
 (.region false [
 ⟨some 2, .op (.mov (.c (.bool false))), none⟩])
 .ret)
 .skip))
 (.seq
 (.region false [
 ⟨some 24, .op (.mov (.t 3)), none⟩,
 ⟨some 25, .op (.iaddr 1 (.t 24) (.c (.int .i64 0))), none⟩,
 ⟨some 26, .op (.load false 1 (.t 25)), none⟩,
 ⟨some 6, .op (.mov (.t 26)), none⟩])
 (.seq
 (.seq
 (.region false [
 ⟨some 7, .op (.mov (.c (.int .i64 1))), none⟩])
 (.block 0
 (.loop
 (.seq
 (.seq
 (.region false [
 ⟨some 27, .op (.mov (.t 7)), none⟩,
 ⟨some 28, .op (.mov (.t 3)), none⟩,
 ⟨some 29, .op (.len false (.t 28)), none⟩,
 ⟨some 30, .op (.bin 0 .lss (.t 27) (.t 29)), none⟩])
 (.cond (.t 30)
 .skip
 (.exit 0)))
 (.seq
 (.block 1
 (.region false [
 ⟨some 33, .op (.mov (.t 6)), none⟩,
 ⟨some 34, .op (.mov (.t 3)), none⟩,
 ⟨some 35, .op (.mov (.t 7)), none⟩,
 ⟨some 36, .op (.iaddr 1 (.t 34) (.t 35)), none⟩,
 ⟨some 37, .op (.load false 1 (.t 36)), none⟩,
 ⟨some 38, .op (.bin 0 .add (.c (.str [226, 139, 132])) (.t 37)), none⟩,
 ⟨some 39, .op (.bin 0 .add (.t 33) (.t 38)), none⟩,
 ⟨some 6, .op (.mov (.t 39)), none⟩]))
 (.region false [
 ⟨some 31, .op (.mov (.t 7)), none⟩,
 ⟨some 32, .op (.bin 0 .add (.t 31) (.c (.int .i64 1))), none⟩,
 ⟨some 7, .op (.mov (.t 32)), none⟩]))))))
 (.seq
 (.region false [
 ⟨some 41, .op (.mov (.t 6)), none⟩,
 ⟨some 42, .call false (.c (.fn 13 [] [])) [.t 41], none⟩,
 ⟨some 40, .op (.mov (.t 42)), none⟩,
 ⟨some 43, .op (.extract (.t 40) 0), none⟩,
 ⟨some 44, .op (.extract (.t 40) 1), none⟩,
 ⟨some 45, .op (.extract (.t 40) 2), none⟩,
 ⟨some 8, .op (.mov (.t 43)), none⟩,
 ⟨some 9, .op (.mov (.t 44)), none⟩,
 ⟨some 10, .op (.mov (.t 45)), none⟩])
 (.seq
 (.seq
 (.region false [
 ⟨some 46, .op (.mov (.t 6)), none⟩,
 ⟨some 47, .op (.len true (.t 46)), none⟩,
 ⟨some 48, .op (.bin 0 .gtr (.t 47) (.c (.int .i64 1024))), none⟩])
 (.cond (.t 48)
 (.seq
 (.region false [
 ⟨some 49, .call false (.c (.fn 8 [] [])) [], none⟩,
 ⟨some 2, .op (.mov (.t 49)), none⟩])
 .ret)
 .skip))
 (.seq
 (.seq
 (.region false [
 ⟨some 50, .op (.mov (.t 9)), none⟩,
 ⟨some 51, .op (.bin 0 .neq (.t 50) (.c (.int .i64 0))), none⟩,
 ⟨some 52, .op (.mov (.t 51)), none⟩,
 ⟨some 53, .op (.mov (.t 8)), some (52, false)⟩,
 ⟨some 54, .op (.len false (.t 53)), some (52, false)⟩,
 ⟨some 55, .op (.mov (.t 3)), some (52, false)⟩,
 ⟨some 56, .op (.len false (.t 55)), some (52, false)⟩,
 ⟨some 57, .op (.bin 0 .neq (.t 54) (.t 56)), some (52, false)⟩,
 ⟨some 58, .op (.pick (.t 52) (.c (.bool true)) (.t 57)), none⟩])
 (.cond (.t 58)
 (.seq
 (.region false [
 ⟨some 2, .op (.mov (.c (.bool false))), none⟩])
 .ret)
 .skip))
 (.seq
 (.seq
 (.region false [
 ⟨some 11, .op (.mov (.c (.int .i64 0))), none⟩])
 (.block 2
 (.loop
 (.seq
 (.seq
 (.region false [
 ⟨some 59, .op (.mov (.t 11)), none⟩,
 ⟨some 60, .op (.mov (.t 3)), none⟩,
 ⟨some 61, .op (.len false (.t 60)), none⟩,
 ⟨some 62, .op (.bin 0 .lss (.t 59) (.t 61)), none⟩])
 (.cond (.t 62)
 .skip
 (.exit 2)))
 (.seq
 (.block 3
 (.seq
 (.region true [
 ⟨some 65, .op (.mov (.t 8)), none⟩,
 ⟨some 66, .op (.mov (.t 11)), none⟩,
 ⟨some 67, .op (.iaddr 1 (.t 65) (.t 66)), none⟩,
 ⟨some 68, .op (.load false 1 (.t 67)), none⟩,
 ⟨some 69, .op (.mov (.t 3)), none⟩,
 ⟨some 70, .op (.mov (.t 11)), none⟩,
 ⟨some 71, .op (.iaddr 1 (.t 69) (.t 70)), none⟩,
 ⟨some 72, .op (.load false 1 (.t 71)), none⟩,
 ⟨some 73, .op (.bin 0 .neq (.t 68) (.t 72)), none⟩])
 (.cond (.t 73)
 (.seq
 (.region false [
 ⟨some 2, .op (.mov (.c (.bool false))), none⟩])
 .ret)
 .skip)))
 (.region false [
 ⟨some 63, .op (.mov (.t 11)), none⟩,
 ⟨some 64, .op (.bin 0 .add (.t 63) (.c (.int .i64 1))), none⟩,
 ⟨some 11, .op (.mov (.t 64)), none⟩]))))))
 (.seq
 (.region false [
 ⟨some 74, .call false (.c (.fn 8 [] [])) [], none⟩,
 ⟨some 2, .op (.mov (.t 74)), none⟩])
 .ret)))))))))))
def c205 : CF := ⟨75, 1, [.mov (.t 2)], b205⟩
theorem s204 : stripF Go.Proofs.Tryd.prog 4 = some c204 := by kernel_rfl
theorem s205 : stripF Go.Proofs.Tryd.prog 5 = some c205 := by kernel_rfl

theorem ssl_ro (L : List (List UInt8)) : (V.tup [ssl L, .int .i64 0, .int .i64 0]).ro = true := by simp [V.ro, roL, ssl, strL_ro]

theorem CutL.len : ∀ {L : List (List Seg)}, CutL L → (∀ A ∈ L, PartOK A) → 1 ≤ L.length
  | _, .one _, _ => Nat.le_refl _
  | _, .cons _ _, _ => by simp

theorem good204 (s : List UInt8) : Good Go.Proofs.Tryd.prog 4 [.str s] (.bool true) := by
  have h213 := good213 s
  refine good_go mix s204 (Nat.le_of_ble_eq_true rfl) fun e he => ?_
  have e0 : e 0 = .str s := he 0
  clear he
  simp only [c204,b204]
  simp -implicitDefEqProofs (disch := omega) only [↓z00,↓z01,↓z02,↓z03,↓z04,↓z05,↓z06,↓z07,↓z08,↓z09,↓z10,↓z11,↓z12,↓z13,↓z14,↓z15,↓z16,↓z17,↓z18,↓z19,↓z20,↓z21,↓z22,↓z23,↓z24,z25,z26,z27,z28,z29,z30,z09,z10,z31,↓reduceIte,↓z32,↓z33,↓z34,↓z35,↓ev_t,↓ev_c,↓z36,↓z37,↓z38,↓z39,Env.put,↓z40,stepO,lenV,binV,binInt,unV,loadV,sliceV,boundOf,convV,slstrV,z41,z42,z43,z44,if_pos,z45,z46,w64',w32',w8',Int.reduceToNat,Nat.reducePow,z47,z48,z49,z50,z51,V.cells,V.isCell,V.boxable,z52,z53,z54,z55,z56,z57,Nat.reduceEqDiff,reduceCtorEq,z58,z59,z60,↓z61,↓z62,↓z63,↓z64,↓z65,↓z66,↓done_l,↓done_lm,↓done_lll,z70,z71,z72,z73,z74,z75,z76,z77,z78,reduceIte,z79,z80,z81,z82,z83,z84,z85,z86,z87,z88,z89,z90,z91,z92,z93,z94,z95,ite_self,z96,z97,z98,z99,y00,y01,y02,y03,enterEnv,y04,y05,y06,y07,y08,y09,y10,y11,y12,e0]
  rcases splitR_cases s with ⟨er, j, hne, hr⟩ | ⟨L, hC, hok, hLn, hr⟩
  · rw [hr] at h213
    refine calP_ro (str_ro _) h213 rfl ?_
    simp -implicitDefEqProofs (disch := omega) only [↓z00,↓z01,↓z02,↓z03,↓z04,↓z05,↓z06,↓z07,↓z08,↓z09,↓z10,↓z11,↓z12,↓z13,↓z14,↓z15,↓z16,↓z17,↓z18,↓z19,↓z20,↓z21,↓z22,↓z23,↓z24,z25,z26,z27,z28,z29,z30,z09,z10,z31,↓reduceIte,↓z32,↓z33,↓z34,↓z35,↓ev_t,↓ev_c,↓z36,↓z37,↓z38,↓z39,Env.put,↓z40,stepO,lenV,binV,binInt,unV,loadV,sliceV,boundOf,convV,slstrV,z41,z42,z43,z44,if_pos,z45,z46,w64',w32',w8',Int.reduceToNat,Nat.reducePow,z47,z48,z49,z50,z51,V.cells,V.isCell,V.boxable,z52,z53,z54,z55,z56,z57,Nat.reduceEqDiff,reduceCtorEq,z58,z59,z60,↓z61,↓z62,↓z63,↓z64,↓z65,↓z66,↓done_l,↓done_lm,↓done_lll,z70,z71,z72,z73,z74,z75,z76,z77,z78,reduceIte,z79,z80,z81,z82,z83,z84,z85,z86,z87,z88,z89,z90,z91,z92,z93,z94,z95,ite_self,z96,z97,z98,z99,y00,y01,y02,y03,enterEnv,y04,y05,y06,y07,y08,y09,y10,y11,y12,e0]
    refine calP_ro rfl good6 rfl ?_
    simp -implicitDefEqProofs (disch := omega) only [↓z00,↓z01,↓z02,↓z03,↓z04,↓z05,↓z06,↓z07,↓z08,↓z09,↓z10,↓z11,↓z12,↓z13,↓z14,↓z15,↓z16,↓z17,↓z18,↓z19,↓z20,↓z21,↓z22,↓z23,↓z24,z25,z26,z27,z28,z29,z30,z09,z10,z31,↓reduceIte,↓z32,↓z33,↓z34,↓z35,↓ev_t,↓ev_c,↓z36,↓z37,↓z38,↓z39,Env.put,↓z40,stepO,lenV,binV,binInt,unV,loadV,sliceV,boundOf,convV,slstrV,z41,z42,z43,z44,if_pos,z45,z46,w64',w32',w8',Int.reduceToNat,Nat.reducePow,z47,z48,z49,z50,z51,V.cells,V.isCell,V.boxable,z52,z53,z54,z55,z56,z57,Nat.reduceEqDiff,reduceCtorEq,z58,z59,z60,↓z61,↓z62,↓z63,↓z64,↓z65,↓z66,↓done_l,↓done_lm,↓done_lll,z70,z71,z72,z73,z74,z75,z76,z77,z78,reduceIte,z79,z80,z81,z82,z83,z84,z85,z86,z87,z88,z89,z90,z91,z92,z93,z94,z95,ite_self,z96,z97,z98,z99,y00,y01,y02,y03,enterEnv,y04,y05,y06,y07,y08,y09,y10,y11,y12,e0]
    exact gives_eq rfl rfl
  · rw [hr] at h213
    have hlen := hC.len hok
    refine calP_ro (str_ro _) h213 (ssl_ro _) ?_
    simp -implicitDefEqProofs (disch := omega) only [↓z00,↓z01,↓z02,↓z03,↓z04,↓z05,↓z06,↓z07,↓z08,↓z09,↓z10,↓z11,↓z12,↓z13,↓z14,↓z15,↓z16,↓z17,↓z18,↓z19,↓z20,↓z21,↓z22,↓z23,↓z24,z25,z26,z27,z28,z29,z30,z09,z10,z31,↓reduceIte,↓z32,↓z33,↓z34,↓z35,↓ev_t,↓ev_c,↓z36,↓z37,↓z38,↓z39,Env.put,↓z40,stepO,lenV,binV,binInt,unV,loadV,sliceV,boundOf,convV,slstrV,z41,z42,z43,z44,if_pos,z45,z46,w64',w32',w8',Int.reduceToNat,Nat.reducePow,z47,z48,z49,z50,z51,V.cells,V.isCell,V.boxable,z52,z53,z54,z55,z56,z57,Nat.reduceEqDiff,reduceCtorEq,z58,z59,z60,↓z61,↓z62,↓z63,↓z64,↓z65,↓z66,↓done_l,↓done_lm,↓done_lll,z70,z71,z72,z73,z74,z75,z76,z77,z78,reduceIte,z79,z80,z81,z82,z83,z84,z85,z86,z87,z88,z89,z90,z91,z92,z93,z94,z95,ite_self,z96,z97,z98,z99,y00,y01,y02,y03,enterEnv,y04,y05,y06,y07,y08,y09,y10,y11,y12,e0,bne_self_eq_false]
    refine go_loop (fun m e H => ∃ j : Nat, j ≤ L.length ∧ m = L.length - j ∧ e 3 = .sl false (strL (L.map partT)) L.length ∧ e 6 = .int .i64 (j : Nat))
      L.length ⟨0, by omega, rfl, ?_, ?_⟩ ?_
    · simp [Env.set, ssl]
    · simp [Env.set]
    rintro m e H ⟨j, hj, rfl, e3, e6⟩
    rcases Nat.lt_or_ge j L.length with hlt | hge
    · have hm : (L.map partT)[j]? = some (partT L[j]) := by simp [hlt]
      have hat := strL_get hm
      have hmem : L[j] ∈ L := List.getElem_mem hlt
      obtain ⟨o, ho⟩ := hC.depth _ hmem
      have hp := good213 (partT L[j])
      rw [splitR_part ho (hok _ hmem)] at hp
      simp -implicitDefEqProofs (disch := omega) only [↓z00,↓z01,↓z02,↓z03,↓z04,↓z05,↓z06,↓z07,↓z08,↓z09,↓z10,↓z11,↓z12,↓z13,↓z14,↓z15,↓z16,↓z17,↓z18,↓z19,↓z20,↓z21,↓z22,↓z23,↓z24,z25,z26,z27,z28,z29,z30,z09,z10,z31,↓reduceIte,↓z32,↓z33,↓z34,↓z35,↓ev_t,↓ev_c,↓z36,↓z37,↓z38,↓z39,Env.put,↓z40,stepO,lenV,binV,binInt,unV,loadV,sliceV,boundOf,convV,slstrV,z41,z42,z43,z44,if_pos,z45,z46,w64',w32',w8',Int.reduceToNat,Nat.reducePow,z47,z48,z49,z50,z51,V.cells,V.isCell,V.boxable,z52,z53,z54,z55,z56,z57,Nat.reduceEqDiff,reduceCtorEq,z58,z59,z60,↓z61,↓z62,↓z63,↓z64,↓z65,↓z66,↓done_l,↓done_lm,↓done_lll,z70,z71,z72,z73,z74,z75,z76,z77,z78,reduceIte,z79,z80,z81,z82,z83,z84,z85,z86,z87,z88,z89,z90,z91,z92,z93,z94,z95,ite_self,z96,z97,z98,z99,y00,y01,y02,y03,enterEnv,y04,y05,y06,y07,y08,y09,y10,y11,y12,e3,e6,hat]
      refine calP_ro (str_ro _) hp (ssl_ro _) ?_
      have hs1 : strL [partT L[j]] = [.str (partT L[j])] := rfl
      simp -implicitDefEqProofs (disch := omega) only [↓z00,↓z01,↓z02,↓z03,↓z04,↓z05,↓z06,↓z07,↓z08,↓z09,↓z10,↓z11,↓z12,↓z13,↓z14,↓z15,↓z16,↓z17,↓z18,↓z19,↓z20,↓z21,↓z22,↓z23,↓z24,z25,z26,z27,z28,z29,z30,z09,z10,z31,↓reduceIte,↓z32,↓z33,↓z34,↓z35,↓ev_t,↓ev_c,↓z36,↓z37,↓z38,↓z39,Env.put,↓z40,stepO,lenV,binV,binInt,unV,loadV,sliceV,boundOf,convV,slstrV,z41,z42,z43,z44,if_pos,z45,z46,w64',w32',w8',Int.reduceToNat,Nat.reducePow,z47,z48,z49,z50,z51,V.cells,V.isCell,V.boxable,z52,z53,z54,z55,z56,z57,Nat.reduceEqDiff,reduceCtorEq,z58,z59,z60,↓z61,↓z62,↓z63,↓z64,↓z65,↓z66,↓done_l,↓done_lm,↓done_lll,z70,z71,z72,z73,z74,z75,z76,z77,z78,reduceIte,z79,z80,z81,z82,z83,z84,z85,z86,z87,z88,z89,z90,z91,z92,z93,z94,z95,ite_self,z96,z97,z98,z99,y00,y01,y02,y03,enterEnv,y04,y05,y06,y07,y08,y09,y10,y11,y12,e3,e6,hat,ssl,hs1,bne_self_eq_false,binStr,z95]
      exact ⟨_, by omega, j + 1, by omega, rfl, rfl⟩
    · simp -implicitDefEqProofs (disch := omega) only [↓z00,↓z01,↓z02,↓z03,↓z04,↓z05,↓z06,↓z07,↓z08,↓z09,↓z10,↓z11,↓z12,↓z13,↓z14,↓z15,↓z16,↓z17,↓z18,↓z19,↓z20,↓z21,↓z22,↓z23,↓z24,z25,z26,z27,z28,z29,z30,z09,z10,z31,↓reduceIte,↓z32,↓z33,↓z34,↓z35,↓ev_t,↓ev_c,↓z36,↓z37,↓z38,↓z39,Env.put,↓z40,stepO,lenV,binV,binInt,unV,loadV,sliceV,boundOf,convV,slstrV,z41,z42,z43,z44,if_pos,z45,z46,w64',w32',w8',Int.reduceToNat,Nat.reducePow,z47,z48,z49,z50,z51,V.cells,V.isCell,V.boxable,z52,z53,z54,z55,z56,z57,Nat.reduceEqDiff,reduceCtorEq,z58,z59,z60,↓z61,↓z62,↓z63,↓z64,↓z65,↓z66,↓done_l,↓done_lm,↓done_lll,z70,z71,z72,z73,z74,z75,z76,z77,z78,reduceIte,z79,z80,z81,z82,z83,z84,z85,z86,z87,z88,z89,z90,z91,z92,z93,z94,z95,ite_self,z96,z97,z98,z99,y00,y01,y02,y03,enterEnv,y04,y05,y06,y07,y08,y09,y10,y11,y12,e3,e6]
      refine calP_ro rfl good6 rfl ?_
      simp -implicitDefEqProofs (disch := omega) only [↓z00,↓z01,↓z02,↓z03,↓z04,↓z05,↓z06,↓z07,↓z08,↓z09,↓z10,↓z11,↓z12,↓z13,↓z14,↓z15,↓z16,↓z17,↓z18,↓z19,↓z20,↓z21,↓z22,↓z23,↓z24,z25,z26,z27,z28,z29,z30,z09,z10,z31,↓reduceIte,↓z32,↓z33,↓z34,↓z35,↓ev_t,↓ev_c,↓z36,↓z37,↓z38,↓z39,Env.put,↓z40,stepO,lenV,binV,binInt,unV,loadV,sliceV,boundOf,convV,slstrV,z41,z42,z43,z44,if_pos,z45,z46,w64',w32',w8',Int.reduceToNat,Nat.reducePow,z47,z48,z49,z50,z51,V.cells,V.isCell,V.boxable,z52,z53,z54,z55,z56,z57,Nat.reduceEqDiff,reduceCtorEq,z58,z59,z60,↓z61,↓z62,↓z63,↓z64,↓z65,↓z66,↓done_l,↓done_lm,↓done_lll,z70,z71,z72,z73,z74,z75,z76,z77,z78,reduceIte,z79,z80,z81,z82,z83,z84,z85,z86,z87,z88,z89,z90,z91,z92,z93,z94,z95,ite_self,z96,z97,z98,z99,y00,y01,y02,y03,enterEnv,y04,y05,y06,y07,y08,y09,y10,y11,y12,e3,e6]
      exact gives_eq rfl rfl

theorem joinT_snoc (p : List UInt8) (l : List (List UInt8)) (q : List UInt8) : joinT p (l ++ [q]) = joinT p l ++ (diaB ++ q) := by simp [joinT]

theorem joinT_len (p : List UInt8) (N : Nat) : ∀ l : List (List UInt8), p.length ≤ N → (∀ q ∈ l, q.length ≤ N) → (joinT p l).length ≤ (N + 3) * (l.length + 1)
  | [], hp, _ => by simp [joinT]; omega
  | q :: l, hp, h => by
    have ih := joinT_len p N l hp fun x hx => h x (List.mem_cons_of_mem _ hx)
    have hq := h q (by simp)
    have e : (joinT p (q :: l)).length = (joinT p l).length + (3 + q.length) := by simp [joinT, diaB]; omega
    rw [e, List.length_cons, Nat.mul_succ (N + 3) (l.length + 1)]
    omega

theorem good205 (s : List UInt8) : Good Go.Proofs.Tryd.prog 5 [.str s] (.bool true) := by
  have h213 := good213 s
  refine good_go mix s205 (Nat.le_of_ble_eq_true rfl) fun e he => ?_
  have e0 : e 0 = .str s := he 0
  clear he
  simp only [c205,b205]
  simp -implicitDefEqProofs (disch := omega) only [↓z00,↓z01,↓z02,↓z03,↓z04,↓z05,↓z06,↓z07,↓z08,↓z09,↓z10,↓z11,↓z12,↓z13,↓z14,↓z15,↓z16,↓z17,↓z18,↓z19,↓z20,↓z21,↓z22,↓z23,↓z24,z25,z26,z27,z28,z29,z30,z09,z10,z31,↓reduceIte,↓z32,↓z33,↓z34,↓z35,↓ev_t,↓ev_c,↓z36,↓z37,↓z38,↓z39,Env.put,↓z40,stepO,lenV,binV,binInt,unV,loadV,sliceV,boundOf,convV,slstrV,z41,z42,z43,z44,if_pos,z45,z46,w64',w32',w8',Int.reduceToNat,Nat.reducePow,z47,z48,z49,z50,z51,V.cells,V.isCell,V.boxable,z52,z53,z54,z55,z56,z57,Nat.reduceEqDiff,reduceCtorEq,z58,z59,z60,↓z61,↓z62,↓z63,↓z64,↓z65,↓z66,↓done_l,↓done_lm,↓done_lll,z70,z71,z72,z73,z74,z75,z76,z77,z78,reduceIte,z79,z80,z81,z82,z83,z84,z85,z86,z87,z88,z89,z90,z91,z92,z93,z94,z95,ite_self,z96,z97,z98,z99,y00,y01,y02,y03,enterEnv,y04,y05,y06,y07,y08,y09,y10,y11,y12,e0]
  rcases splitR_cases s with ⟨er, j, hne, hr⟩ | ⟨L, hC, hok, hLn, hr⟩
  · rw [hr] at h213
    refine calP_ro (str_ro _) h213 rfl ?_
    simp -implicitDefEqProofs (disch := omega) only [↓z00,↓z01,↓z02,↓z03,↓z04,↓z05,↓z06,↓z07,↓z08,↓z09,↓z10,↓z11,↓z12,↓z13,↓z14,↓z15,↓z16,↓z17,↓z18,↓z19,↓z20,↓z21,↓z22,↓z23,↓z24,z25,z26,z27,z28,z29,z30,z09,z10,z31,↓reduceIte,↓z32,↓z33,↓z34,↓z35,↓ev_t,↓ev_c,↓z36,↓z37,↓z38,↓z39,Env.put,↓z40,stepO,lenV,binV,binInt,unV,loadV,sliceV,boundOf,convV,slstrV,z41,z42,z43,z44,if_pos,z45,z46,w64',w32',w8',Int.reduceToNat,Nat.reducePow,z47,z48,z49,z50,z51,V.cells,V.isCell,V.boxable,z52,z53,z54,z55,z56,z57,Nat.reduceEqDiff,reduceCtorEq,z58,z59,z60,↓z61,↓z62,↓z63,↓z64,↓z65,↓z66,↓done_l,↓done_lm,↓done_lll,z70,z71,z72,z73,z74,z75,z76,z77,z78,reduceIte,z79,z80,z81,z82,z83,z84,z85,z86,z87,z88,z89,z90,z91,z92,z93,z94,z95,ite_self,z96,z97,z98,z99,y00,y01,y02,y03,enterEnv,y04,y05,y06,y07,y08,y09,y10,y11,y12,e0]
    refine calP_ro rfl good6 rfl ?_
    simp -implicitDefEqProofs (disch := omega) only [↓z00,↓z01,↓z02,↓z03,↓z04,↓z05,↓z06,↓z07,↓z08,↓z09,↓z10,↓z11,↓z12,↓z13,↓z14,↓z15,↓z16,↓z17,↓z18,↓z19,↓z20,↓z21,↓z22,↓z23,↓z24,z25,z26,z27,z28,z29,z30,z09,z10,z31,↓reduceIte,↓z32,↓z33,↓z34,↓z35,↓ev_t,↓ev_c,↓z36,↓z37,↓z38,↓z39,Env.put,↓z40,stepO,lenV,binV,binInt,unV,loadV,sliceV,boundOf,convV,slstrV,z41,z42,z43,z44,if_pos,z45,z46,w64',w32',w8',Int.reduceToNat,Nat.reducePow,z47,z48,z49,z50,z51,V.cells,V.isCell,V.boxable,z52,z53,z54,z55,z56,z57,Nat.reduceEqDiff,reduceCtorEq,z58,z59,z60,↓z61,↓z62,↓z63,↓z64,↓z65,↓z66,↓done_l,↓done_lm,↓done_lll,z70,z71,z72,z73,z74,z75,z76,z77,z78,reduceIte,z79,z80,z81,z82,z83,z84,z85,z86,z87,z88,z89,z90,z91,z92,z93,z94,z95,ite_self,z96,z97,z98,z99,y00,y01,y02,y03,enterEnv,y04,y05,y06,y07,y08,y09,y10,y11,y12,e0]
    exact gives_eq rfl rfl
  · rw [hr] at h213
    refine calP_ro (str_ro _) h213 (ssl_ro _) ?_
    cases L with
    | nil => exact absurd rfl hC.ne
    | cons A L =>
      obtain ⟨X, hX⟩ : ∃ X, X = (A :: L).map partT := ⟨_, rfl⟩
      have hXl : X.length = L.length + 1 := by rw [hX]; simp
      have hat0 : (strL X)[0]? = some (.str (partT A)) := by rw [hX]; rfl
      have hXj : ∀ j (h : j < L.length), X[j + 1]? = some (partT L[j]) := fun j h => by rw [hX]; simp [h]
      simp only [y08] at hLn
      rw [← hX]
      simp -implicitDefEqProofs (disch := omega) only [↓z00,↓z01,↓z02,↓z03,↓z04,↓z05,↓z06,↓z07,↓z08,↓z09,↓z10,↓z11,↓z12,↓z13,↓z14,↓z15,↓z16,↓z17,↓z18,↓z19,↓z20,↓z21,↓z22,↓z23,↓z24,z25,z26,z27,z28,z29,z30,z09,z10,z31,↓reduceIte,↓z32,↓z33,↓z34,↓z35,↓ev_t,↓ev_c,↓z36,↓z37,↓z38,↓z39,Env.put,↓z40,stepO,lenV,binV,binInt,unV,loadV,sliceV,boundOf,convV,slstrV,z41,z42,z43,z44,if_pos,z45,z46,w64',w32',w8',Int.reduceToNat,Nat.reducePow,z47,z48,z49,z50,z51,V.cells,V.isCell,V.boxable,z52,z53,z54,z55,z56,z57,Nat.reduceEqDiff,reduceCtorEq,z58,z59,z60,↓z61,↓z62,↓z63,↓z64,↓z65,↓z66,↓done_l,↓done_lm,↓done_lll,z70,z71,z72,z73,z74,z75,z76,z77,z78,reduceIte,z79,z80,z81,z82,z83,z84,z85,z86,z87,z88,z89,z90,z91,z92,z93,z94,z95,ite_self,z96,z97,z98,z99,y00,y01,y02,y03,enterEnv,y04,y05,y06,y07,y08,y09,y10,y11,y12,e0,bne_self_eq_false,ssl,hat0,hXl]
      refine go_loop (fun m e H => ∃ j : Nat, j ≤ L.length ∧ m = L.length - j ∧ e 3 = .sl false (strL X) (L.length + 1) ∧ e 6 = .str (joinT (partT A) ((L.take j).map partT)) ∧ e 7 = .int .i64 ((j + 1 : Nat) : Int))
        L.length ⟨0, by omega, rfl, ?_, ?_, ?_⟩ ?_
      · simp [Env.set]
      · simp [Env.set, joinT]
      · simp [Env.set]
      rintro m e H ⟨j, hj, rfl, e3, e6, e7⟩
      rcases Nat.lt_or_ge j L.length with hlt | hge
      · have hat := strL_get (hXj j hlt)
        have hstep : joinT (partT A) ((L.take (j + 1)).map partT) = joinT (partT A) ((L.take j).map partT) ++ ([226, 139, 132] ++ partT L[j]) := by
          rw [List.take_add_one, List.getElem?_eq_getElem hlt, Option.toList_some, List.map_append, List.map_cons, List.map_nil, joinT_snoc]; rfl
        have hq := (hok L[j] (by simp)).len
        have hjl : (joinT (partT A) ((L.take j).map partT)).length ≤ 1100000 := by
          have h1 := joinT_len (partT A) 1024 ((L.take j).map partT) (hok A (by simp)).len (fun q hq => by
            obtain ⟨A', hA', rfl⟩ := List.mem_map.1 hq
            exact (hok A' (by simp [List.mem_of_mem_take hA'])).len)
          rw [List.length_map, List.length_take] at h1
          have h2 : 1027 * (min j L.length + 1) ≤ 1027 * 1025 := Nat.mul_le_mul_left _ (by omega)
          omega
        simp -implicitDefEqProofs (disch := omega) only [↓z00,↓z01,↓z02,↓z03,↓z04,↓z05,↓z06,↓z07,↓z08,↓z09,↓z10,↓z11,↓z12,↓z13,↓z14,↓z15,↓z16,↓z17,↓z18,↓z19,↓z20,↓z21,↓z22,↓z23,↓z24,z25,z26,z27,z28,z29,z30,z09,z10,z31,↓reduceIte,↓z32,↓z33,↓z34,↓z35,↓ev_t,↓ev_c,↓z36,↓z37,↓z38,↓z39,Env.put,↓z40,stepO,lenV,binV,binInt,unV,loadV,sliceV,boundOf,convV,slstrV,z41,z42,z43,z44,if_pos,z45,z46,w64',w32',w8',Int.reduceToNat,Nat.reducePow,z47,z48,z49,z50,z51,V.cells,V.isCell,V.boxable,z52,z53,z54,z55,z56,z57,Nat.reduceEqDiff,reduceCtorEq,z58,z59,z60,↓z61,↓z62,↓z63,↓z64,↓z65,↓z66,↓done_l,↓done_lm,↓done_lll,z70,z71,z72,z73,z74,z75,z76,z77,z78,reduceIte,z79,z80,z81,z82,z83,z84,z85,z86,z87,z88,z89,z90,z91,z92,z93,z94,z95,ite_self,z96,z97,z98,z99,y00,y01,y02,y03,enterEnv,y04,y05,y06,y07,y08,y09,y10,y11,y12,e3,e6,e7,hat,binStr]
        exact ⟨_, by omega, j + 1, by omega, rfl, by rw [hstep]; rfl, rfl⟩
      · obtain rfl : j = L.length := by omega
        rw [List.take_length] at e6
        have hp := good213 (joinT (partT A) (L.map partT))
        have hjl : (joinT (partT A) (L.map partT)).length ≤ 1100000 := by
          have h1 := joinT_len (partT A) 1024 (L.map partT) (hok A (by simp)).len (fun q hq => by
            obtain ⟨A', hA', rfl⟩ := List.mem_map.1 hq
            exact (hok A' (by simp [hA'])).len)
          rw [List.length_map] at h1
          have h2 : 1027 * (L.length + 1) ≤ 1027 * 1025 := Nat.mul_le_mul_left _ hLn
          omega
        simp -implicitDefEqProofs (disch := omega) only [↓z00,↓z01,↓z02,↓z03,↓z04,↓z05,↓z06,↓z07,↓z08,↓z09,↓z10,↓z11,↓z12,↓z13,↓z14,↓z15,↓z16,↓z17,↓z18,↓z19,↓z20,↓z21,↓z22,↓z23,↓z24,z25,z26,z27,z28,z29,z30,z09,z10,z31,↓reduceIte,↓z32,↓z33,↓z34,↓z35,↓ev_t,↓ev_c,↓z36,↓z37,↓z38,↓z39,Env.put,↓z40,stepO,lenV,binV,binInt,unV,loadV,sliceV,boundOf,convV,slstrV,z41,z42,z43,z44,if_pos,z45,z46,w64',w32',w8',Int.reduceToNat,Nat.reducePow,z47,z48,z49,z50,z51,V.cells,V.isCell,V.boxable,z52,z53,z54,z55,z56,z57,Nat.reduceEqDiff,reduceCtorEq,z58,z59,z60,↓z61,↓z62,↓z63,↓z64,↓z65,↓z66,↓done_l,↓done_lm,↓done_lll,z70,z71,z72,z73,z74,z75,z76,z77,z78,reduceIte,z79,z80,z81,z82,z83,z84,z85,z86,z87,z88,z89,z90,z91,z92,z93,z94,z95,ite_self,z96,z97,z98,z99,y00,y01,y02,y03,enterEnv,y04,y05,y06,y07,y08,y09,y10,y11,y12,e3,e6,e7]
        by_cases hlong : 1024 < (joinT (partT A) (L.map partT)).length
        · have hlr : splitR (joinT (partT A) (L.map partT)) = .tup [.sl false [] 0, .int .i64 25, .int .i64 0] := by rw [splitR, if_pos hlong]
          rw [hlr] at hp
          refine calP_ro (str_ro _) hp rfl ?_
          simp -implicitDefEqProofs (disch := omega) only [↓z00,↓z01,↓z02,↓z03,↓z04,↓z05,↓z06,↓z07,↓z08,↓z09,↓z10,↓z11,↓z12,↓z13,↓z14,↓z15,↓z16,↓z17,↓z18,↓z19,↓z20,↓z21,↓z22,↓z23,↓z24,z25,z26,z27,z28,z29,z30,z09,z10,z31,↓reduceIte,↓z32,↓z33,↓z34,↓z35,↓ev_t,↓ev_c,↓z36,↓z37,↓z38,↓z39,Env.put,↓z40,stepO,lenV,binV,binInt,unV,loadV,sliceV,boundOf,convV,slstrV,z41,z42,z43,z44,if_pos,z45,z46,w64',w32',w8',Int.reduceToNat,Nat.reducePow,z47,z48,z49,z50,z51,V.cells,V.isCell,V.boxable,z52,z53,z54,z55,z56,z57,Nat.reduceEqDiff,reduceCtorEq,z58,z59,z60,↓z61,↓z62,↓z63,↓z64,↓z65,↓z66,↓done_l,↓done_lm,↓done_lll,z70,z71,z72,z73,z74,z75,z76,z77,z78,reduceIte,z79,z80,z81,z82,z83,z84,z85,z86,z87,z88,z89,z90,z91,z92,z93,z94,z95,ite_self,z96,z97,z98,z99,y00,y01,y02,y03,enterEnv,y04,y05,y06,y07,y08,y09,y10,y11,y12,e3,e6,e7]
          refine calP_ro rfl good6 rfl ?_
          simp -implicitDefEqProofs (disch := omega) only [↓z00,↓z01,↓z02,↓z03,↓z04,↓z05,↓z06,↓z07,↓z08,↓z09,↓z10,↓z11,↓z12,↓z13,↓z14,↓z15,↓z16,↓z17,↓z18,↓z19,↓z20,↓z21,↓z22,↓z23,↓z24,z25,z26,z27,z28,z29,z30,z09,z10,z31,↓reduceIte,↓z32,↓z33,↓z34,↓z35,↓ev_t,↓ev_c,↓z36,↓z37,↓z38,↓z39,Env.put,↓z40,stepO,lenV,binV,binInt,unV,loadV,sliceV,boundOf,convV,slstrV,z41,z42,z43,z44,if_pos,z45,z46,w64',w32',w8',Int.reduceToNat,Nat.reducePow,z47,z48,z49,z50,z51,V.cells,V.isCell,V.boxable,z52,z53,z54,z55,z56,z57,Nat.reduceEqDiff,reduceCtorEq,z58,z59,z60,↓z61,↓z62,↓z63,↓z64,↓z65,↓z66,↓done_l,↓done_lm,↓done_lll,z70,z71,z72,z73,z74,z75,z76,z77,z78,reduceIte,z79,z80,z81,z82,z83,z84,z85,z86,z87,z88,z89,z90,z91,z92,z93,z94,z95,ite_self,z96,z97,z98,z99,y00,y01,y02,y03,enterEnv,y04,y05,y06,y07,y08,y09,y10,y11,y12,e3,e6,e7]
          exact gives_eq rfl rfl
        · rw [splitR_join hC hok (by omega), ← hX] at hp
          refine calP_ro (str_ro _) hp (ssl_ro _) ?_
          simp -implicitDefEqProofs (disch := omega) only [↓z00,↓z01,↓z02,↓z03,↓z04,↓z05,↓z06,↓z07,↓z08,↓z09,↓z10,↓z11,↓z12,↓z13,↓z14,↓z15,↓z16,↓z17,↓z18,↓z19,↓z20,↓z21,↓z22,↓z23,↓z24,z25,z26,z27,z28,z29,z30,z09,z10,z31,↓reduceIte,↓z32,↓z33,↓z34,↓z35,↓ev_t,↓ev_c,↓z36,↓z37,↓z38,↓z39,Env.put,↓z40,stepO,lenV,binV,binInt,unV,loadV,sliceV,boundOf,convV,slstrV,z41,z42,z43,z44,if_pos,z45,z46,w64',w32',w8',Int.reduceToNat,Nat.reducePow,z47,z48,z49,z50,z51,V.cells,V.isCell,V.boxable,z52,z53,z54,z55,z56,z57,Nat.reduceEqDiff,reduceCtorEq,z58,z59,z60,↓z61,↓z62,↓z63,↓z64,↓z65,↓z66,↓done_l,↓done_lm,↓done_lll,z70,z71,z72,z73,z74,z75,z76,z77,z78,reduceIte,z79,z80,z81,z82,z83,z84,z85,z86,z87,z88,z89,z90,z91,z92,z93,z94,z95,ite_self,z96,z97,z98,z99,y00,y01,y02,y03,enterEnv,y04,y05,y06,y07,y08,y09,y10,y11,y12,e3,e6,e7,bne_self_eq_false,ssl,hXl]
          refine go_loop (fun m e H => ∃ j : Nat, j ≤ L.length + 1 ∧ m = L.length + 1 - j ∧ e 3 = .sl false (strL X) (L.length + 1) ∧ e 8 = .sl false (strL X) (L.length + 1) ∧ e 11 = .int .i64 (j : Nat))
            (L.length + 1) ⟨0, by omega, rfl, ?_, ?_, ?_⟩ ?_
          · simp [Env.set, e3]
          · simp [Env.set]
          · simp [Env.set]
          rintro m e H ⟨j, hj, rfl, e3, e8, e11⟩
          rcases Nat.lt_or_ge j (L.length + 1) with hlt | hge
          · have hat := strL_get (List.getElem?_eq_getElem (show j < X.length by omega))
            simp -implicitDefEqProofs (disch := omega) only [↓z00,↓z01,↓z02,↓z03,↓z04,↓z05,↓z06,↓z07,↓z08,↓z09,↓z10,↓z11,↓z12,↓z13,↓z14,↓z15,↓z16,↓z17,↓z18,↓z19,↓z20,↓z21,↓z22,↓z23,↓z24,z25,z26,z27,z28,z29,z30,z09,z10,z31,↓reduceIte,↓z32,↓z33,↓z34,↓z35,↓ev_t,↓ev_c,↓z36,↓z37,↓z38,↓z39,Env.put,↓z40,stepO,lenV,binV,binInt,unV,loadV,sliceV,boundOf,convV,slstrV,z41,z42,z43,z44,if_pos,z45,z46,w64',w32',w8',Int.reduceToNat,Nat.reducePow,z47,z48,z49,z50,z51,V.cells,V.isCell,V.boxable,z52,z53,z54,z55,z56,z57,Nat.reduceEqDiff,reduceCtorEq,z58,z59,z60,↓z61,↓z62,↓z63,↓z64,↓z65,↓z66,↓done_l,↓done_lm,↓done_lll,z70,z71,z72,z73,z74,z75,z76,z77,z78,reduceIte,z79,z80,z81,z82,z83,z84,z85,z86,z87,z88,z89,z90,z91,z92,z93,z94,z95,ite_self,z96,z97,z98,z99,y00,y01,y02,y03,enterEnv,y04,y05,y06,y07,y08,y09,y10,y11,y12,e3,e8,e11,hat,binStr,bne_self_eq_false,z95]
            exact ⟨_, by omega, j + 1, by omega, rfl, rfl⟩
          · simp -implicitDefEqProofs (disch := omega) only [↓z00,↓z01,↓z02,↓z03,↓z04,↓z05,↓z06,↓z07,↓z08,↓z09,↓z10,↓z11,↓z12,↓z13,↓z14,↓z15,↓z16,↓z17,↓z18,↓z19,↓z20,↓z21,↓z22,↓z23,↓z24,z25,z26,z27,z28,z29,z30,z09,z10,z31,↓reduceIte,↓z32,↓z33,↓z34,↓z35,↓ev_t,↓ev_c,↓z36,↓z37,↓z38,↓z39,Env.put,↓z40,stepO,lenV,binV,binInt,unV,loadV,sliceV,boundOf,convV,slstrV,z41,z42,z43,z44,if_pos,z45,z46,w64',w32',w8',Int.reduceToNat,Nat.reducePow,z47,z48,z49,z50,z51,V.cells,V.isCell,V.boxable,z52,z53,z54,z55,z56,z57,Nat.reduceEqDiff,reduceCtorEq,z58,z59,z60,↓z61,↓z62,↓z63,↓z64,↓z65,↓z66,↓done_l,↓done_lm,↓done_lll,z70,z71,z72,z73,z74,z75,z76,z77,z78,reduceIte,z79,z80,z81,z82,z83,z84,z85,z86,z87,z88,z89,z90,z91,z92,z93,z94,z95,ite_self,z96,z97,z98,z99,y00,y01,y02,y03,enterEnv,y04,y05,y06,y07,y08,y09,y10,y11,y12,e3,e8,e11]
            refine calP_ro rfl good6 rfl ?_
            simp -implicitDefEqProofs (disch := omega) only [↓z00,↓z01,↓z02,↓z03,↓z04,↓z05,↓z06,↓z07,↓z08,↓z09,↓z10,↓z11,↓z12,↓z13,↓z14,↓z15,↓z16,↓z17,↓z18,↓z19,↓z20,↓z21,↓z22,↓z23,↓z24,z25,z26,z27,z28,z29,z30,z09,z10,z31,↓reduceIte,↓z32,↓z33,↓z34,↓z35,↓ev_t,↓ev_c,↓z36,↓z37,↓z38,↓z39,Env.put,↓z40,stepO,lenV,binV,binInt,unV,loadV,sliceV,boundOf,convV,slstrV,z41,z42,z43,z44,if_pos,z45,z46,w64',w32',w8',Int.reduceToNat,Nat.reducePow,z47,z48,z49,z50,z51,V.cells,V.isCell,V.boxable,z52,z53,z54,z55,z56,z57,Nat.reduceEqDiff,reduceCtorEq,z58,z59,z60,↓z61,↓z62,↓z63,↓z64,↓z65,↓z66,↓done_l,↓done_lm,↓done_lll,z70,z71,z72,z73,z74,z75,z76,z77,z78,reduceIte,z79,z80,z81,z82,z83,z84,z85,z86,z87,z88,z89,z90,z91,z92,z93,z94,z95,ite_self,z96,z97,z98,z99,y00,y01,y02,y03,enterEnv,y04,y05,y06,y07,y08,y09,y10,y11,y12,e3,e8,e11]
            exact gives_eq rfl rfl
end Fe
open Go Go.Proofs
namespace Fe
theorem gFirst : Go.Proofs.Tryd.prog.globalNamed "unicode/utf8.first" = some 0 := by kernel_rfl
theorem gAcc : Go.Proofs.Tryd.prog.globalNamed "unicode/utf8.acceptRanges" = some 1 := by kernel_rfl
theorem yFirst : (Go.Proofs.Tryd.prog.globals[0]?).map (·.type) = some 59 := by kernel_rfl
theorem yAcc : (Go.Proofs.Tryd.prog.globals[1]?).map (·.type) = some 63 := by kernel_rfl
theorem uFirst : Go.Proofs.Tryd.prog.underlying 59 = some (.array 256 5) := by kernel_rfl
theorem uAcc : Go.Proofs.Tryd.prog.underlying 63 = some (.array 16 62) := by kernel_rfl
theorem uRow : Go.Proofs.Tryd.prog.underlying 62 = some (.struct #[{ name := "lo", type := 5, offset := 0, embedded := false, tag := "", pkgPath := "unicode/utf8", byteOffset := 0 }, { name := "hi", type := 5, offset := 1, embedded := false, tag := "", pkgPath := "unicode/utf8", byteOffset := 1 }]) := by kernel_rfl
theorem uByte : Go.Proofs.Tryd.prog.underlying 5 = some (.int .u8) := by kernel_rfl
theorem cByte : Go.Proofs.Tryd.prog.cellsOf 5 = 1 := by kernel_rfl
theorem cFirst : Go.Proofs.Tryd.prog.cellsOf 59 = 256 := by kernel_rfl
theorem cRow : Go.Proofs.Tryd.prog.cellsOf 62 = 2 := by kernel_rfl

def accD : List (DataW Unit) := [.agg [.lit (.int .u8 128), .lit (.int .u8 191)], .agg [.lit (.int .u8 160), .lit (.int .u8 191)], .agg [.lit (.int .u8 128), .lit (.int .u8 159)], .agg [.lit (.int .u8 144), .lit (.int .u8 191)], .agg [.lit (.int .u8 128), .lit (.int .u8 143)], .agg [.lit (.int .u8 0), .lit (.int .u8 0)], .agg [.lit (.int .u8 0), .lit (.int .u8 0)], .agg [.lit (.int .u8 0), .lit (.int .u8 0)], .agg [.lit (.int .u8 0), .lit (.int .u8 0)], .agg [.lit (.int .u8 0), .lit (.int .u8 0)], .agg [.lit (.int .u8 0), .lit (.int .u8 0)], .agg [.lit (.int .u8 0), .lit (.int .u8 0)], .agg [.lit (.int .u8 0), .lit (.int .u8 0)], .agg [.lit (.int .u8 0), .lit (.int .u8 0)], .agg [.lit (.int .u8 0), .lit (.int .u8 0)], .agg [.lit (.int .u8 0), .lit (.int .u8 0)]]
theorem accD_at : ∀ i, i < 16 → accD[i]? = some (.agg ([((acceptL.getD (2 * i) 0 : Nat) : Int), ((acceptL.getD (2 * i + 1) 0 : Nat) : Int)].map fun z => .lit (.int .u8 z))) := by
  intro i hi
  match i, hi with
  | 0, _ | 1, _ | 2, _ | 3, _ | 4, _ | 5, _ | 6, _ | 7, _ | 8, _ | 9, _ | 10, _ | 11, _ | 12, _ | 13, _ | 14, _ | 15, _ => rfl
  | n + 16, h => exact absurd h (by omega)

/-- The tables that a row lays are the tables that the evaluator knows. -/
theorem base_of_laid {W : World} (h : laidMet Go.Proofs.Tryd.prog [("unicode/utf8.acceptRanges", .agg accD), ("unicode/utf8.first", Go.Pinned.utf8First)] W) : Base Go.Proofs.Tryd.prog (fun _ => False) W := by
  have r1 := Lib.laidMet.reads h (n := "unicode/utf8.first") (d := Go.Pinned.utf8First) (by simp)
  have r2 := Lib.laidMet.reads h (n := "unicode/utf8.acceptRanges") (d := .agg accD) (by simp)
  have c1 : ∀ i (hi : i < utf8F.length), W.cell? ⟨0, i, none⟩ = some (.int .u8 (utf8F[i] : Nat)) := by
    intro i hi
    obtain ⟨g, t, cs, fuel, p, hg, hty, hvar, hd⟩ := r1
    obtain rfl := Option.some.inj (gFirst.symm.trans hg)
    obtain rfl := Option.some.inj (yFirst.symm.trans hty)
    have e : (Go.Pinned.utf8First : DataW Unit) = Lib.tabData .u8 (utf8F.map fun (n : Nat) => (n : Int)) := by
      unfold Go.Pinned.utf8First Lib.tabData Go.Pinned.numbers utf8F
      rw [List.map_map]; rfl
    rw [e] at hd
    have hcs := Lib.cells_of_tab uFirst uByte cByte cFirst hd
    rw [World.var?_cell hg hvar i, ← Array.getElem?_toList, hcs]
    simp [List.getElem?_eq_getElem hi]
  have c2 : ∀ i, i < 32 → W.cell? ⟨1, i, none⟩ = some (.int .u8 ((acceptL.getD i 0 : Nat) : Int)) := by
    intro i hi32
    obtain ⟨g, t, cs, fuel, p, hg, hty, hvar, hd⟩ := r2
    obtain rfl := Option.some.inj (gAcc.symm.trans hg)
    obtain rfl := Option.some.inj (yAcc.symm.trans hty)
    obtain ⟨fuel', d, q, hdi, he⟩ := Lib.array_elem uAcc hd (i / 2) (by omega)
    rw [accD_at _ (by omega), Option.some.injEq] at hdi
    subst hdi
    rw [cRow] at he
    have hcs := Lib.ints_of_struct uRow (fun j f hj => by
      match j, hj with
      | 0, hj => simp at hj; subst hj; exact ⟨uByte, rfl, cByte⟩
      | 1, hj => simp at hj; subst hj; exact ⟨uByte, rfl, cByte⟩
      | j + 2, hj => simp at hj) (by rw [cRow]; rfl) he
    have e0 := congrArg (·[0]?) hcs
    have e1 := congrArg (·[1]?) hcs
    simp only [List.getElem?_take,List.getElem?_drop] at e0 e1
    rw [World.var?_cell hg hvar i, ← Array.getElem?_toList]
    rcases Nat.mod_two_eq_zero_or_one i with hm | hm
    · have : i = i / 2 * 2 + 0 := by omega
      rw [this]
      have h2 : 2 * (i / 2) = i / 2 * 2 + 0 := by omega
      rw [h2] at e0
      simpa using e0
    · have : i = i / 2 * 2 + 1 := by omega
      rw [this]
      have h2 : 2 * (i / 2) + 1 = i / 2 * 2 + 1 := by omega
      rw [h2] at e1
      have h3 : (i / 2 * 2 + 1) / 2 = i / 2 := by omega
      simpa [h3] using e1
  intro g ns hg
  unfold tabOf at hg
  rw [gFirst, gAcc] at hg
  split at hg
  · rename_i h1
    obtain rfl := Option.some.inj h1
    cases hg
    exact ⟨fun h => h, cell_lt (c1 0 (by rw [show utf8F.length = 256 by kernel_rfl]; decide)), c1⟩
  · split at hg
    · rename_i h1
      obtain rfl := Option.some.inj h1
      cases hg
      exact ⟨fun h => h, cell_lt (c2 0 (by decide)), fun i hi => (c2 i hi).trans (by simp [List.getD, List.getElem?_eq_getElem hi])⟩
    · cases hg
end Fe
