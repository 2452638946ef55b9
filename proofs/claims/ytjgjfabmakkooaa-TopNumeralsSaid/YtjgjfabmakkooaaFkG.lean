/-
  Contracts; contracts; contracts; contracts. No condition.
-/
import Derived.Test.YtjgjfabmakkooaaFkB
set_option linter.unusedSimpArgs false
set_option linter.unusedVariables false
open Go Go.Proofs
namespace Fe

/-! ### The plain law: a number's text is read as the number -/
def digN (n : Nat) : List Nat := (printN n).map UInt8.toNat
theorem digN_mem {n c : Nat} (h : c ∈ digN n) : 48 ≤ c ∧ c ≤ 57 := by
  obtain ⟨b, hb, rfl⟩ := List.mem_map.1 h
  exact print_digits n b hb
theorem digN_ne (n : Nat) : digN n ≠ [] := by
  unfold digN printN
  split
  · simp
  · rename_i h
    rw [decR_pos h]
    simp
theorem charOK_low {c : Nat} (h : c < 55296) : charOK c := by
  unfold charOK; omega
theorem encs_bytes : ∀ l : List UInt8, (∀ b ∈ l, b.toNat < 128) → encs (l.map UInt8.toNat) = l
  | [], _ => rfl
  | b :: l, h => by
    have hb := h b (List.mem_cons_self ..)
    rw [List.map_cons, encs_cons, encL1 (charOK_low (by omega)) hb, encs_bytes l fun x hx => h x (List.mem_cons_of_mem _ hx)]
    simp
theorem encs_digN (n : Nat) : encs (digN n) = printN n := encs_bytes _ fun b hb => by have := print_digits n b hb; omega
def codeR (b : Bool) (n d : Nat) : List Nat := (if b = true then [175] else []) ++ (digN n ++ (if d = 1 then [] else 114 :: digN d))
theorem codeR_mem {b : Bool} {n d c : Nat} (h : c ∈ codeR b n d) : c = 175 ∨ c = 114 ∨ (48 ≤ c ∧ c ≤ 57) := by
  unfold codeR at h
  rcases List.mem_append.1 h with h | h
  · split at h
    · exact .inl (List.mem_singleton.1 h)
    · cases h
  rcases List.mem_append.1 h with h | h
  · exact .inr (.inr (digN_mem h))
  split at h
  · cases h
  rcases List.mem_cons.1 h with h | h
  · exact .inr (.inl h)
  · exact .inr (.inr (digN_mem h))
theorem codeR_ok (b : Bool) (n d : Nat) : ∀ c ∈ codeR b n d, charOK c := fun c hc => charOK_low (by rcases codeR_mem hc with h | h | h <;> omega)
theorem enc175 : encL (175 : Nat) = [194, 175] := by kernel_rfl
theorem enc114 : encL (114 : Nat) = [114] := by kernel_rfl
theorem encs_code (b : Bool) (n d : Nat) : encs (codeR b n d) = printR b n d := by
  unfold codeR printR
  rw [encs_app, encs_app, encs_digN, ← List.append_assoc]
  congr 1
  · congr 1
    cases b
    · rfl
    · rw [if_pos rfl, if_pos rfl, encs_cons, enc175]; rfl
  · split
    · rfl
    · rw [encs_cons, encs_digN, enc114]; rfl
theorem rn_print (b : Bool) (n d : Nat) : rn (printR b n d) = codeR b n d := by rw [← encs_code, rn_encs _ (codeR_ok b n d)]

theorem fold_ahead : ∀ (l : List Nat) (p : Parts), p.mark = 0 → (∀ c ∈ l, c ≠ 46 ∧ c ≠ 114) → l.foldl pstep p = { p with ahead := p.ahead ++ encs l }
  | [], p, h, _ => by simp [encs]
  | c :: l, p, h, hl => by
    obtain ⟨h1, h2⟩ := hl c (List.mem_cons_self ..)
    have hs : pstep p c = { p with ahead := p.ahead ++ encL c } := by
      unfold pstep
      rw [if_neg (by rintro ⟨_, h | h⟩; exact h1 h; exact h2 h), if_pos h]
    rw [List.foldl_cons, hs, fold_ahead l { p with ahead := p.ahead ++ encL c } h fun c hc => hl c (List.mem_cons_of_mem _ hc), encs_cons, List.append_assoc]
theorem fold_behind : ∀ (l : List Nat) (p : Parts), p.mark ≠ 0 → l.foldl pstep p = { p with behind := p.behind ++ encs l }
  | [], p, h => by simp [encs]
  | c :: l, p, h => by
    have hs : pstep p c = { p with behind := p.behind ++ encL c } := by
      unfold pstep
      rw [if_neg (fun hh => h hh.1), if_neg h]
    rw [List.foldl_cons, hs, fold_behind l { p with behind := p.behind ++ encL c } h, encs_cons, List.append_assoc]
theorem fold_code (b : Bool) (n d : Nat) : (digN n ++ (if d = 1 then [] else 114 :: digN d)).foldl pstep ⟨b, [], 0, []⟩ = ⟨b, printN n, if d = 1 then 0 else 114, if d = 1 then [] else printN d⟩ := by
  rw [List.foldl_append, fold_ahead (digN n) _ rfl (fun c hc => by have := digN_mem hc; omega), encs_digN]
  split
  · rfl
  · rw [List.foldl_cons]
    have hs : pstep { below := b, ahead := [] ++ printN n, mark := 0, behind := [] } 114 = { below := b, ahead := [] ++ printN n, mark := 114, behind := [] } := by
      unfold pstep
      rw [if_pos ⟨rfl, .inr rfl⟩]
    rw [hs, fold_behind _ _ (by simp), encs_digN]
    rfl
theorem parts_print (b : Bool) (n d : Nat) : parts (printR b n d) = ⟨b, printN n, if d = 1 then 0 else 114, if d = 1 then [] else printN d⟩ := by
  rw [parts, rn_print]
  cases b with
  | true =>
    have : codeR true n d = 175 :: (digN n ++ (if d = 1 then [] else 114 :: digN d)) := rfl
    rw [this]
    simp only [if_true]
    exact fold_code true n d
  | false =>
    have : codeR false n d = digN n ++ (if d = 1 then [] else 114 :: digN d) := rfl
    rw [this]
    have hf := fold_code false n d
    cases hd : digN n with
    | nil => exact absurd hd (digN_ne n)
    | cons c r =>
      rw [hd] at hf
      have hc : c ∈ digN n := by rw [hd]; exact List.mem_cons_self ..
      have hc := digN_mem hc
      simp only [List.cons_append] at hf ⊢
      rw [if_neg (by omega)]
      exact hf
theorem code_len {b : Bool} {n d : Nat} (h : NumOK b n d) : (codeR b n d).length ≤ 642 := by
  have h1 := print_len (c := 32) h.1 (by decide)
  have h2 := print_len (c := 32) h.2.1 (by decide)
  unfold codeR digN
  simp only [List.length_append,List.length_map]
  split <;> split <;> simp <;> omega
theorem lowR_ok {b : Bool} {n d : Nat} (h : NumOK b n d) : makeR b n d = (rv b n d, 0) := by
  obtain ⟨h1, h2, h3, h4, h5⟩ := h
  rw [makeR, if_neg h3, lowR, h5, if_neg (by decide), Nat.div_one, Nat.div_one, if_neg (by omega)]
  have : (b && decide (0 < (lim n).length)) = b := by
    by_cases hz : n = 0
    · rw [h4 hz]; rfl
    · have : (lim n).length ≠ 0 := fun h => hz (lim_nil_len.1 h)
      rw [decide_eq_true (by omega), Bool.and_true]
  rw [this]
theorem ratP_print {b : Bool} {n d : Nat} (h : NumOK b n d) : ratP (printR b n d) = (rv b n d, 0) := by
  have hl := code_len h
  have h3 := h.2.2.1
  rw [ratP, rn_print, if_neg (by omega), parts_print]
  simp only [natP_print]
  by_cases hd : d = 1
  · subst hd
    simp [lowR_ok h]
  · simp [hd, natP_print, h3, lowR_ok h]
theorem bad_print (b : Bool) (n d : Nat) : bad (printR b n d) = none := by rw [← encs_code, bad_encs _ (codeR_ok b n d)]
theorem printR_len {b : Bool} {n d : Nat} (h : NumOK b n d) : (printR b n d).length ≤ 643 := by
  have h1 := print_len (c := 32) h.1 (by decide)
  have h2 := print_len (c := 32) h.2.1 (by decide)
  unfold printR
  simp only [List.length_append]
  split <;> split <;> simp <;> omega
theorem tw_all {p : Nat → Bool} : ∀ {l : List Nat}, (∀ x ∈ l, p x = true) → l.takeWhile p = l
  | [], _ => rfl
  | c :: l, h => by rw [List.takeWhile_cons, if_pos (h c (List.mem_cons_self ..)), tw_all fun x hx => h x (List.mem_cons_of_mem _ hx)]
theorem tok_print {b : Bool} {n d : Nat} (h : NumOK b n d) : ∃ c r, codeR b n d = c :: r ∧ blankC c = false ∧ c ≠ 9053 ∧ tokenS (c :: r) = .ok 1 (codeR b n d).length (.sl false [] 0) (.sl false (itemOf (rv b n d)) 1) := by
  have hall : ∀ c ∈ digN n ++ (if d = 1 then [] else 114 :: digN d), numC c = true := by
    intro c hc
    have : c = 114 ∨ (48 ≤ c ∧ c ≤ 57) := by
      rcases List.mem_append.1 hc with h | h
      · exact .inr (digN_mem h)
      · split at h
        · cases h
        · rcases List.mem_cons.1 h with h | h
          · exact .inl h
          · exact .inr (digN_mem h)
    rcases this with h | h
    · subst h; rfl
    · simp [numC, isD, h]
  obtain ⟨c, r, hcr, hhead, htail⟩ : ∃ c r, codeR b n d = c :: r ∧ (isD c = true ∨ c = 175) ∧ ∀ x ∈ r, numC x = true := by
    cases b with
    | true => exact ⟨175, _, rfl, .inr rfl, hall⟩
    | false =>
      have e1 : codeR false n d = digN n ++ (if d = 1 then [] else 114 :: digN d) := rfl
      cases hd : digN n with
      | nil => exact absurd hd (digN_ne n)
      | cons c r =>
        rw [hd] at e1 hall
        have hc : c ∈ digN n := by rw [hd]; exact List.mem_cons_self ..
        have hc := digN_mem hc
        exact ⟨c, _, e1, .inl (by simp [isD, hc]), fun x hx => hall x (List.mem_cons_of_mem _ hx)⟩
  have htw : r.takeWhile numC = r := tw_all htail
  refine ⟨c, r, hcr, ?_, ?_, ?_⟩
  · rcases hhead with h | h
    · simp only [isD,decide_eq_true_eq] at h
      simp [blankC]; omega
    · subst h; rfl
  · rcases hhead with h | h
    · simp only [isD,decide_eq_true_eq] at h
      omega
    · omega
  · rw [tokenS, if_pos hhead, htw, ← hcr, numTok, encs_code, ratP_print h]
    simp
theorem all_print {b : Bool} {n d : Nat} (h : NumOK b n d) : ∃ L : Nat, allR (printR b n d) = .tup [.sl false (tokC 1 (printR b n d) 0 (.sl false [] 0) (.sl false (itemOf (rv b n d)) 1) ++ endTok L) 2, .int .i64 0, .int .i64 0] := by
  obtain ⟨c, r, hcr, hb, hc, ht⟩ := tok_print h
  have hl := printR_len h
  have hlex : lexL ((codeR b n d).length + 1) 0 (codeR b n d) = .ok [tokC 1 (printR b n d) 0 (.sl false [] 0) (.sl false (itemOf (rv b n d)) 1), endTok (codeR b n d).length] := by
    rw [lex_step hcr hb hc (by rw [hcr]; exact ht)]
    have hd : (codeR b n d).drop (codeR b n d).length = [] := List.drop_length
    rw [hd, List.take_length, encs_code]
    have hn : (codeR b n d).length = r.length + 1 := by rw [hcr]; rfl
    have : lexL (codeR b n d).length (0 + (codeR b n d).length) [] = .ok [endTok (codeR b n d).length] := by
      rw [hn, lexL]
      simp
    rw [this]
  refine ⟨(codeR b n d).length, ?_⟩
  rw [allR, if_neg (by omega), bad_print, rn_print, hlex]
  simp
end Fe
open Go Go.Proofs
namespace Fe
def b88 : C :=
 (.seq
 (.region false [
 oQ 4 (.box (.t 1)),
 oQ 6 (.mov (.c (.bool false)))])
 (.seq
 (.region false [
 oQ 8 (.faddr 1 (.t 4)),
 oQ 9 (.faddr 0 (.t 8)),
 oQ 10 (.load false 1 (.t 9)),
 oQ 11 (.un .not (.t 10)),
 oQ 12 (.mov (.t 11)),
 ⟨some 13, .op (.faddr 1 (.t 4)), some (12, true)⟩,
 ⟨some 14, .op (.faddr 1 (.t 13)), some (12, true)⟩,
 ⟨some 15, .op (.load false 1 (.t 14)), some (12, true)⟩,
 ⟨some 16, .op (.len false (.t 15)), some (12, true)⟩,
 ⟨some 17, .op (.bin 0 .eql (.t 16) (.c (.int .i64 0))), some (12, true)⟩,
 oQ 18 (.pick (.t 12) (.t 17) (.c (.bool false))),
 oQ 19 (.mov (.t 18)),
 ⟨some 20, .op (.faddr 1 (.t 4)), some (19, true)⟩,
 ⟨some 21, .op (.faddr 2 (.t 20)), some (19, true)⟩,
 ⟨some 22, .op (.load false 1 (.t 21)), some (19, true)⟩,
 ⟨some 23, .op (.len false (.t 22)), some (19, true)⟩,
 ⟨some 24, .op (.bin 0 .eql (.t 23) (.c (.int .i64 0))), some (19, true)⟩,
 oQ 25 (.pick (.t 19) (.t 24) (.c (.bool false))),
 oQ 7 (.mov (.t 25))])
 (.seq
 (.seq
 (.region false [
 oQ 26 (.faddr 0 (.t 4)),
 oQ 27 (.load false 1 (.t 26))])
 (.block 0
 (.seq
 (.region false [
 oQ 29 (.bin 0 .eql (.t 27) (.c (.int .u8 1))),
 oQ 28 (.mov (.t 29))])
 (.cond (.t 28)
 (.seq
 (.region false [
 oQ 30 (.faddr 1 (.t 4)),
 oQ 31 (.load true 3 (.t 30)),
 ⟨some 32, .call false (.c (.fn 9 [] [])) [.t 31], none⟩,
 oQ 33 (.mov (.t 32)),
 ⟨some 34, .op (.faddr 4 (.t 4)), some (33, true)⟩,
 ⟨some 35, .op (.load false 1 (.t 34)), some (33, true)⟩,
 ⟨some 36, .op (.bin 0 .eql (.t 35) (.c (.int .i32 0))), some (33, true)⟩,
 oQ 37 (.pick (.t 33) (.t 36) (.c (.bool false))),
 oQ 38 (.mov (.t 37)),
 ⟨some 39, .op (.faddr 5 (.t 4)), some (38, true)⟩,
 ⟨some 40, .op (.load false 1 (.t 39)), some (38, true)⟩,
 ⟨some 41, .op (.len false (.t 40)), some (38, true)⟩,
 ⟨some 42, .op (.bin 0 .eql (.t 41) (.c (.int .i64 0))), some (38, true)⟩,
 oQ 43 (.pick (.t 38) (.t 42) (.c (.bool false))),
 oQ 6 (.mov (.t 43))])
 .ret)
 (.seq
 (.region false [
 oQ 45 (.bin 0 .eql (.t 27) (.c (.int .u8 2))),
 oQ 44 (.mov (.t 45))])
 (.cond (.t 44)
 (.seq
 (.region false [
 oQ 46 (.faddr 4 (.t 4)),
 oQ 47 (.load false 1 (.t 46)),
 ⟨some 48, .call false (.c (.fn 80 [] [])) [.t 47], none⟩,
 oQ 49 (.mov (.t 48)),
 ⟨some 50, .op (.mov (.t 7)), some (49, true)⟩,
 oQ 51 (.pick (.t 49) (.t 50) (.c (.bool false))),
 oQ 52 (.mov (.t 51)),
 ⟨some 53, .op (.faddr 5 (.t 4)), some (52, true)⟩,
 ⟨some 54, .op (.load false 1 (.t 53)), some (52, true)⟩,
 ⟨some 55, .op (.len false (.t 54)), some (52, true)⟩,
 ⟨some 56, .op (.bin 0 .eql (.t 55) (.c (.int .i64 0))), some (52, true)⟩,
 oQ 57 (.pick (.t 52) (.t 56) (.c (.bool false))),
 oQ 6 (.mov (.t 57))])
 .ret)
 (.seq
 (.region false [
 oQ 59 (.bin 0 .eql (.t 27) (.c (.int .u8 3))),
 oQ 58 (.mov (.t 59))])
 (.cond (.t 58)
 (.seq
 (.region false [
 oQ 60 (.faddr 5 (.t 4)),
 oQ 61 (.load false 1 (.t 60)),
 oQ 62 (.len false (.t 61)),
 oQ 63 (.bin 0 .eql (.t 62) (.c (.int .i64 1))),
 oQ 64 (.mov (.t 63)),
 ⟨some 65, .op (.mov (.t 7)), some (64, true)⟩,
 oQ 66 (.pick (.t 64) (.t 65) (.c (.bool false))),
 oQ 67 (.mov (.t 66)),
 ⟨some 68, .op (.faddr 4 (.t 4)), some (67, true)⟩,
 ⟨some 69, .op (.load false 1 (.t 68)), some (67, true)⟩,
 ⟨some 70, .op (.bin 0 .eql (.t 69) (.c (.int .i32 0))), some (67, true)⟩,
 oQ 71 (.pick (.t 67) (.t 70) (.c (.bool false))),
 oQ 72 (.mov (.t 71)),
 ⟨some 73, .op (.faddr 5 (.t 4)), some (72, true)⟩,
 ⟨some 74, .op (.load false 1 (.t 73)), some (72, true)⟩,
 ⟨some 75, .op (.iaddr 2 (.t 74) (.c (.int .i64 0))), some (72, true)⟩,
 ⟨some 76, .op (.load true 2 (.t 75)), some (72, true)⟩,
 ⟨some 77, .call false (.c (.fn 85 [] [])) [.t 76], some (72, true)⟩,
 ⟨some 78, .op (.un .not (.t 77)), some (72, true)⟩,
 oQ 79 (.pick (.t 72) (.t 78) (.c (.bool false))),
 oQ 80 (.mov (.t 79)),
 ⟨some 81, .op (.mov (.t 0)), some (80, true)⟩,
 ⟨some 82, .op (.faddr 5 (.t 4)), some (80, true)⟩,
 ⟨some 83, .op (.load false 1 (.t 82)), some (80, true)⟩,
 ⟨some 84, .op (.iaddr 2 (.t 83) (.c (.int .i64 0))), some (80, true)⟩,
 ⟨some 85, .op (.load true 2 (.t 84)), some (80, true)⟩,
 ⟨some 86, .op (.mov (.t 2)), some (80, true)⟩,
 ⟨some 87, .call false (.c (.fn 70 [] [])) [.t 81, .t 85, .t 86], some (80, true)⟩,
 oQ 88 (.pick (.t 80) (.t 87) (.c (.bool false))),
 oQ 6 (.mov (.t 88))])
 .ret)
 .skip))))))))
 (.seq
 (.region false [
 oQ 6 (.mov (.c (.bool false)))])
 .ret))))
def c88 : CF := ⟨89, 3, [.mov (.t 6)], b88⟩
def b87 : C :=
 (.seq
 (.region false [
 oQ 3 (.box (.t 0)),
 oQ 4 (.mov (.c (.bool false)))])
 (.seq
 (.region false [
 oQ 5 (.load false 1 (.t 1)),
 oQ 6 (.load true 6 (.t 3)),
 oQ 7 (.load false 1 (.t 2)),
 ⟨some 8, .call false (.c (.fn 88 [] [])) [.t 5, .t 6, .t 7], none⟩,
 oQ 9 (.un .not (.t 8)),
 oQ 4 (.mov (.t 9))])
 .ret))
def c87 : CF := ⟨10, 1, [.mov (.t 4)], b87⟩
def b96 : C :=
 (.seq
 (.region false [
 oQ 4 (.mov (.c (.int .i64 0)))])
 (.seq
 (.seq
 (.region false [
 oQ 6 (.mov (.t 0)),
 oQ 7 (.len false (.t 6)),
 oQ 8 (.mov (.c (.int .i64 0)))])
 (.block 0
 (.loop
 (.seq
 (.region false [
 oQ 9 (.bin 0 .lss (.t 8) (.t 7))])
 (.seq
 (.cond (.t 9)
 .skip
 (.exit 0))
 (.seq
 (.block 1
 (.seq
 (.region false [
 oQ 10 (.mov (.t 8)),
 oQ 5 (.mov (.t 10))])
 (.seq
 (.region false [
 oQ 11 (.mov (.t 1)),
 oQ 12 (.mov (.t 0)),
 oQ 13 (.mov (.t 5)),
 oQ 14 (.iaddr 6 (.t 12) (.t 13)),
 oQ 15 (.load true 6 (.t 14)),
 ⟨some 16, .call false (.t 11) [.t 15], none⟩])
 (.cond (.t 16)
 (.seq
 (.region false [
 oQ 17 (.mov (.t 5)),
 oQ 4 (.mov (.t 17))])
 .ret)
 .skip))))
 (.region false [
 oQ 18 (.bin 0 .add (.t 8) (.c (.int .i64 1))),
 oQ 8 (.mov (.t 18))])))))))
 (.seq
 (.region false [
 oQ 4 (.mov (.c (.int .i64 (-1))))])
 .ret)))
def c96 : CF := ⟨19, 2, [.mov (.t 4)], b96⟩
def b86 : C :=
 (.seq
 (.region false [
 oQ 4 (.mov (.c (.bool false)))])
 (.seq
 (.region false [
 oQ 5 (.mov (.t 0)),
 oQ 6 (.mov (.t 1)),
 ⟨some 7, .call false (.c (.fn 96 [] [])) [.t 5, .t 6], none⟩,
 oQ 8 (.bin 0 .geq (.t 7) (.c (.int .i64 0))),
 oQ 4 (.mov (.t 8))])
 .ret))
def c86 : CF := ⟨9, 2, [.mov (.t 4)], b86⟩
def b70 : C :=
 (.seq
 (.region false [
 oQ 3 (.box (.t 0)),
 oQ 4 (.box (.t 1)),
 oQ 5 (.box (.t 2)),
 oQ 6 (.mov (.c (.bool false)))])
 (.seq
 (.region false [
 oQ 10 (.faddr 0 (.t 4)),
 oQ 11 (.load false 1 (.t 10)),
 ⟨some 12, .call false (.c (.fn 84 [] [])) [.t 11], none⟩,
 oQ 9 (.mov (.t 12)),
 oQ 13 (.extract (.t 9) 0),
 oQ 14 (.extract (.t 9) 1),
 oQ 7 (.mov (.t 13)),
 oQ 8 (.mov (.t 14))])
 (.seq
 (.seq
 (.region false [
 oQ 15 (.mov (.t 8)),
 oQ 16 (.bin 0 .neq (.t 15) (.c (.int .i64 0))),
 oQ 17 (.mov (.t 16)),
 ⟨some 18, .op (.faddr 1 (.t 4)), some (17, false)⟩,
 ⟨some 19, .op (.load false 1 (.t 18)), some (17, false)⟩,
 ⟨some 20, .op (.len false (.t 19)), some (17, false)⟩,
 ⟨some 21, .op (.mov (.t 7)), some (17, false)⟩,
 ⟨some 22, .op (.mx (.t 21) (.c (.int .i64 1))), some (17, false)⟩,
 ⟨some 23, .op (.bin 0 .neq (.t 20) (.t 22)), some (17, false)⟩,
 oQ 24 (.pick (.t 17) (.c (.bool true)) (.t 23))])
 (.cond (.t 24)
 (.seq
 (.region false [
 oQ 6 (.mov (.c (.bool false)))])
 .ret)
 .skip))
 (.seq
 (.region true [
 oQ 25 (.load false 1 (.t 3)),
 oQ 26 (.nilck (.t 25)),
 oQ 27 (.faddr 0 (.t 26)),
 oQ 28 (.load false 1 (.t 27)),
 oQ 29 (.faddr 1 (.t 4)),
 oQ 30 (.load false 1 (.t 29)),
 oQ 31 (.len false (.t 30)),
 oQ 32 (.bin 0 .add (.t 28) (.t 31)),
 oQ 33 (.nilck (.t 25)),
 oQ 34 (.faddr 0 (.t 33)),
 ⟨none, .op (.store 1 (.t 34) (.t 32)), none⟩])
 (.seq
 (.seq
 (.region false [
 oQ 35 (.load false 1 (.t 3)),
 oQ 36 (.nilck (.t 35)),
 oQ 37 (.faddr 0 (.t 36)),
 oQ 38 (.load false 1 (.t 37)),
 oQ 39 (.bin 0 .gtr (.t 38) (.c (.int .i64 16384)))])
 (.cond (.t 39)
 (.seq
 (.region false [
 oQ 6 (.mov (.c (.bool false)))])
 .ret)
 .skip))
 (.seq
 (.seq
 (.region false [
 oQ 40 (.load true 2 (.t 4)),
 ⟨some 41, .call false (.c (.fn 85 [] [])) [.t 40], none⟩,
 oQ 42 (.un .not (.t 41))])
 (.cond (.t 42)
 (.seq
 (.region false [
 oQ 43 (.load false 1 (.t 5)),
 oQ 44 (.bin 0 .add (.t 43) (.c (.int .i64 1))),
 ⟨none, .op (.store 1 (.t 5) (.t 44)), none⟩])
 (.region true [
 oQ 45 (.load false 1 (.t 3)),
 oQ 46 (.load false 1 (.t 3)),
 oQ 47 (.nilck (.t 46)),
 oQ 48 (.faddr 1 (.t 47)),
 oQ 49 (.load false 1 (.t 48)),
 oQ 50 (.load false 1 (.t 5)),
 oQ 51 (.mx (.t 49) (.t 50)),
 oQ 52 (.nilck (.t 45)),
 oQ 53 (.faddr 1 (.t 52)),
 ⟨none, .op (.store 1 (.t 53) (.t 51)), none⟩]))
 .skip))
 (.seq
 (.region false [
 oQ 54 (.load false 1 (.t 5)),
 oQ 55 (.bin 0 .leq (.t 54) (.c (.int .i64 16))),
 oQ 56 (.mov (.t 55)),
 ⟨some 57, .op (.faddr 1 (.t 4)), some (56, true)⟩,
 ⟨some 58, .op (.load false 1 (.t 57)), some (56, true)⟩,
 ⟨some 59, .op (.mkfn 87 [] [.t 3, .t 5]), some (56, true)⟩,
 ⟨some 60, .call false (.c (.fn 86 [] [])) [.t 58, .t 59], some (56, true)⟩,
 ⟨some 61, .op (.un .not (.t 60)), some (56, true)⟩,
 oQ 62 (.pick (.t 56) (.t 61) (.c (.bool false))),
 oQ 6 (.mov (.t 62))])
 .ret)))))))
def c70 : CF := ⟨63, 3, [.mov (.t 6)], b70⟩
def b38 : C :=
 (.seq
 (.region false [
 oQ 1 (.box (.t 0)),
 oQ 2 (.box (.c (.agg [.int .i64 0, .int .i64 0]))),
 oQ 3 (.mov (.c (.bool false)))])
 (.seq
 (.region false [
 oQ 4 (.box (.c (.agg [.int .i64 0, .int .i64 0])))])
 (.seq
 (.seq
 (.region false [
 oQ 5 (.load true 2 (.t 1)),
 ⟨some 6, .call false (.c (.fn 70 [] [])) [.t 4, .t 5, .c (.int .i64 0)], none⟩,
 oQ 7 (.un .not (.t 6))])
 (.cond (.t 7)
 (.seq
 (.region false [
 oQ 8 (.build [.int .i64 0, .int .i64 0] []),
 ⟨none, .op (.store 2 (.t 2) (.t 8)), none⟩,
 oQ 3 (.mov (.c (.bool false)))])
 .ret)
 .skip))
 (.seq
 (.region false [
 oQ 9 (.load true 2 (.t 4)),
 ⟨none, .op (.store 2 (.t 2) (.t 9)), none⟩,
 oQ 3 (.mov (.c (.bool true)))])
 .ret))))
def c38 : CF := ⟨10, 1, [.load true 2 (.t 2), .mov (.t 3)], b38⟩
def b21 : C :=
 (.seq
 (.region false [
 oQ 1 (.box (.t 0)),
 oQ 2 (.mov (.c (.bool false)))])
 (.seq
 (.region false [
 oQ 6 (.load true 2 (.t 1)),
 ⟨some 7, .call false (.c (.fn 38 [] [])) [.t 6], none⟩,
 oQ 5 (.mov (.t 7)),
 oQ 8 (.extract (.t 5) 0),
 oQ 9 (.extract (.t 5) 1),
 oQ 3 (.box (.c (.agg [.int .i64 0, .int .i64 0]))),
 ⟨none, .op (.store 2 (.t 3) (.t 8)), none⟩,
 oQ 4 (.mov (.t 9))])
 (.seq
 (.region false [
 oQ 10 (.mov (.t 4)),
 oQ 2 (.mov (.t 10))])
 .ret)))
def c21 : CF := ⟨11, 1, [.mov (.t 2)], b21⟩
def b41 : C :=
 (.seq
 (.region false [
 oQ 2 (.box (.t 0)),
 oQ 3 (.box (.t 1)),
 oQ 4 (.mov (.c (.bool false)))])
 (.seq
 (.seq
 (.region false [
 oQ 5 (.faddr 0 (.t 2)),
 oQ 6 (.load false 1 (.t 5))])
 (.block 0
 (.seq
 (.region false [
 oQ 8 (.faddr 0 (.t 3)),
 oQ 9 (.load false 1 (.t 8)),
 oQ 10 (.bin 0 .eql (.t 6) (.t 9)),
 oQ 7 (.mov (.t 10))])
 (.cond (.t 7)
 (.seq
 (.region false [
 oQ 11 (.faddr 4 (.t 2)),
 oQ 12 (.load false 1 (.t 11)),
 oQ 13 (.faddr 4 (.t 3)),
 oQ 14 (.load false 1 (.t 13)),
 oQ 15 (.bin 0 .eql (.t 12) (.t 14)),
 oQ 16 (.mov (.t 15)),
 ⟨some 17, .op (.faddr 1 (.t 2)), some (16, true)⟩,
 ⟨some 18, .op (.faddr 0 (.t 17)), some (16, true)⟩,
 ⟨some 19, .op (.load false 1 (.t 18)), some (16, true)⟩,
 ⟨some 20, .op (.faddr 1 (.t 3)), some (16, true)⟩,
 ⟨some 21, .op (.faddr 0 (.t 20)), some (16, true)⟩,
 ⟨some 22, .op (.load false 1 (.t 21)), some (16, true)⟩,
 ⟨some 23, .op (.bin 1 .eql (.t 19) (.t 22)), some (16, true)⟩,
 oQ 24 (.pick (.t 16) (.t 23) (.c (.bool false))),
 oQ 25 (.mov (.t 24)),
 ⟨some 26, .op (.faddr 1 (.t 2)), some (25, true)⟩,
 ⟨some 27, .op (.faddr 1 (.t 26)), some (25, true)⟩,
 ⟨some 28, .op (.load false 1 (.t 27)), some (25, true)⟩,
 ⟨some 29, .op (.faddr 1 (.t 3)), some (25, true)⟩,
 ⟨some 30, .op (.faddr 1 (.t 29)), some (25, true)⟩,
 ⟨some 31, .op (.load false 1 (.t 30)), some (25, true)⟩,
 ⟨some 32, .call false (.c (.fn 17 [] [])) [.t 28, .t 31], some (25, true)⟩,
 oQ 33 (.pick (.t 25) (.t 32) (.c (.bool false))),
 oQ 34 (.mov (.t 33)),
 ⟨some 35, .op (.faddr 1 (.t 2)), some (34, true)⟩,
 ⟨some 36, .op (.faddr 2 (.t 35)), some (34, true)⟩,
 ⟨some 37, .op (.load false 1 (.t 36)), some (34, true)⟩,
 ⟨some 38, .op (.faddr 1 (.t 3)), some (34, true)⟩,
 ⟨some 39, .op (.faddr 2 (.t 38)), some (34, true)⟩,
 ⟨some 40, .op (.load false 1 (.t 39)), some (34, true)⟩,
 ⟨some 41, .call false (.c (.fn 17 [] [])) [.t 37, .t 40], some (34, true)⟩,
 oQ 42 (.pick (.t 34) (.t 41) (.c (.bool false))),
 oQ 43 (.mov (.t 42)),
 ⟨some 44, .op (.faddr 5 (.t 2)), some (43, true)⟩,
 ⟨some 45, .op (.load false 1 (.t 44)), some (43, true)⟩,
 ⟨some 46, .op (.faddr 5 (.t 3)), some (43, true)⟩,
 ⟨some 47, .op (.load false 1 (.t 46)), some (43, true)⟩,
 ⟨some 48, .call false (.c (.fn 42 [] [])) [.t 45, .t 47, .c (.fn 22 [] [])], some (43, true)⟩,
 oQ 49 (.pick (.t 43) (.t 48) (.c (.bool false))),
 oQ 4 (.mov (.t 49))])
 .ret)
 .skip))))
 (.seq
 (.region false [
 oQ 4 (.mov (.c (.bool false)))])
 .ret)))
def c41 : CF := ⟨50, 2, [.mov (.t 4)], b41⟩
def b40 : C :=
 (.seq
 (.region false [
 oQ 6 (.mov (.c (.bool false)))])
 (.seq
 (.seq
 (.region false [
 oQ 10 (.mov (.t 0)),
 oQ 11 (.len false (.t 10)),
 oQ 12 (.mov (.t 1)),
 oQ 13 (.len false (.t 12)),
 oQ 14 (.bin 0 .neq (.t 11) (.t 13))])
 (.cond (.t 14)
 (.seq
 (.region false [
 oQ 6 (.mov (.c (.bool false)))])
 .ret)
 .skip))
 (.seq
 (.seq
 (.region false [
 oQ 15 (.mov (.t 0)),
 oQ 16 (.len false (.t 15)),
 oQ 17 (.mov (.c (.int .i64 0)))])
 (.block 0
 (.loop
 (.seq
 (.region false [
 oQ 18 (.bin 0 .lss (.t 17) (.t 16))])
 (.seq
 (.cond (.t 18)
 .skip
 (.exit 0))
 (.seq
 (.block 1
 (.seq
 (.region false [
 oQ 19 (.mov (.t 17)),
 oQ 20 (.iaddr 6 (.t 15) (.t 17)),
 oQ 21 (.load true 6 (.t 20)),
 oQ 8 (.box (.c (.agg [.int .u8 0, .bool false, .sl true [] 0, .sl true [] 0, .int .i32 0, .sl true [] 0]))),
 oQ 7 (.mov (.t 19)),
 ⟨none, .op (.store 6 (.t 8) (.t 21)), none⟩])
 (.seq
 (.region false [
 oQ 22 (.mov (.t 1)),
 oQ 23 (.mov (.t 7)),
 oQ 24 (.iaddr 6 (.t 22) (.t 23)),
 oQ 25 (.load true 6 (.t 24)),
 oQ 9 (.box (.c (.agg [.int .u8 0, .bool false, .sl true [] 0, .sl true [] 0, .int .i32 0, .sl true [] 0]))),
 ⟨none, .op (.store 6 (.t 9) (.t 25)), none⟩])
 (.seq
 (.region false [
 oQ 26 (.mov (.t 2)),
 oQ 27 (.load true 6 (.t 8)),
 oQ 28 (.load true 6 (.t 9)),
 ⟨some 29, .call false (.t 26) [.t 27, .t 28], none⟩,
 oQ 30 (.un .not (.t 29))])
 (.cond (.t 30)
 (.seq
 (.region false [
 oQ 6 (.mov (.c (.bool false)))])
 .ret)
 .skip)))))
 (.region false [
 oQ 31 (.bin 0 .add (.t 17) (.c (.int .i64 1))),
 oQ 17 (.mov (.t 31))])))))))
 (.seq
 (.region false [
 oQ 6 (.mov (.c (.bool true)))])
 .ret))))
def c40 : CF := ⟨32, 3, [.mov (.t 6)], b40⟩
def b22 : C :=
 (.seq
 (.region false [
 oQ 2 (.box (.t 0)),
 oQ 3 (.box (.t 1)),
 oQ 4 (.mov (.c (.bool false)))])
 (.seq
 (.region false [
 oQ 5 (.faddr 0 (.t 2)),
 oQ 6 (.load false 1 (.t 5)),
 oQ 7 (.faddr 0 (.t 3)),
 oQ 8 (.load false 1 (.t 7)),
 ⟨some 9, .call false (.c (.fn 39 [] [])) [.t 6, .t 8], none⟩,
 oQ 10 (.mov (.t 9)),
 ⟨some 11, .op (.faddr 1 (.t 2)), some (10, true)⟩,
 ⟨some 12, .op (.load false 1 (.t 11)), some (10, true)⟩,
 ⟨some 13, .op (.faddr 1 (.t 3)), some (10, true)⟩,
 ⟨some 14, .op (.load false 1 (.t 13)), some (10, true)⟩,
 ⟨some 15, .call false (.c (.fn 40 [] [])) [.t 12, .t 14, .c (.fn 41 [] [])], some (10, true)⟩,
 oQ 16 (.pick (.t 10) (.t 15) (.c (.bool false))),
 oQ 4 (.mov (.t 16))])
 .ret))
def c22 : CF := ⟨17, 2, [.mov (.t 4)], b22⟩
def b10 : C :=
 (.seq
 (.region false [
 oQ 2 (.box (.t 0)),
 oQ 3 (.box (.t 1)),
 oQ 4 (.mov (.c (.bool false)))])
 (.seq
 (.region false [
 oQ 5 (.load true 2 (.t 2)),
 ⟨some 6, .call false (.c (.fn 21 [] [])) [.t 5], none⟩,
 oQ 7 (.mov (.t 6)),
 ⟨some 8, .op (.load true 2 (.t 3)), some (7, true)⟩,
 ⟨some 9, .call false (.c (.fn 21 [] [])) [.t 8], some (7, true)⟩,
 oQ 10 (.pick (.t 7) (.t 9) (.c (.bool false))),
 oQ 11 (.mov (.t 10)),
 ⟨some 12, .op (.load true 2 (.t 2)), some (11, true)⟩,
 ⟨some 13, .op (.load true 2 (.t 3)), some (11, true)⟩,
 ⟨some 14, .call false (.c (.fn 22 [] [])) [.t 12, .t 13], some (11, true)⟩,
 oQ 15 (.pick (.t 11) (.t 14) (.c (.bool false))),
 oQ 4 (.mov (.t 15))])
 .ret))
def c10 : CF := ⟨16, 2, [.mov (.t 4)], b10⟩
def b4 : C :=
 (.seq
 (.region false [
 oQ 1 (.box (.t 0)),
 oQ 2 (.mov (.c (.bool false)))])
 (.seq
 (.region false [
 oQ 7 (.load true 3 (.t 1)),
 ⟨some 8, .call false (.c (.fn 8 [] [])) [.t 7], none⟩,
 oQ 3 (.mov (.t 8))])
 (.seq
 (.region false [
 oQ 10 (.mov (.t 3)),
 ⟨some 11, .call false (.c (.fn 5 [] [])) [.t 10], none⟩,
 oQ 9 (.mov (.t 11)),
 oQ 12 (.extract (.t 9) 0),
 oQ 13 (.extract (.t 9) 1),
 oQ 14 (.extract (.t 9) 2),
 oQ 4 (.mov (.t 12)),
 oQ 5 (.mov (.t 13)),
 oQ 6 (.mov (.t 14))])
 (.seq
 (.seq
 (.region false [
 oQ 15 (.load true 3 (.t 1)),
 ⟨some 16, .call false (.c (.fn 9 [] [])) [.t 15], none⟩,
 oQ 17 (.un .not (.t 16))])
 (.cond (.t 17)
 (.seq
 (.region false [
 oQ 18 (.mov (.t 3)),
 oQ 19 (.bin 0 .eql (.t 18) (.c (.str []))),
 oQ 20 (.mov (.t 19)),
 ⟨some 21, .op (.load true 3 (.t 1)), some (20, true)⟩,
 ⟨some 22, .call false (.c (.fn 11 [] [])) [.t 21], some (20, true)⟩,
 ⟨some 23, .call false (.c (.fn 12 [] [])) [.c (.int .i64 0)], some (20, true)⟩,
 ⟨some 24, .call false (.c (.fn 10 [] [])) [.t 22, .t 23], some (20, true)⟩,
 oQ 25 (.pick (.t 20) (.t 24) (.c (.bool false))),
 oQ 2 (.mov (.t 25))])
 .ret)
 .skip))
 (.seq
 (.region true [
 oQ 26 (.mov (.t 5)),
 oQ 27 (.bin 0 .eql (.t 26) (.c (.int .i64 0))),
 oQ 28 (.mov (.t 27)),
 ⟨some 29, .op (.mov (.t 4)), some (28, true)⟩,
 ⟨some 30, .op (.len false (.t 29)), some (28, true)⟩,
 ⟨some 31, .op (.bin 0 .eql (.t 30) (.c (.int .i64 2))), some (28, true)⟩,
 oQ 32 (.pick (.t 28) (.t 31) (.c (.bool false))),
 oQ 33 (.mov (.t 32)),
 ⟨some 34, .op (.mov (.t 4)), some (33, true)⟩,
 ⟨some 35, .op (.iaddr 5 (.t 34) (.c (.int .i64 0))), some (33, true)⟩,
 ⟨some 36, .op (.faddr 0 (.t 35)), some (33, true)⟩,
 ⟨some 37, .op (.load false 1 (.t 36)), some (33, true)⟩,
 ⟨some 38, .op (.bin 0 .eql (.t 37) (.c (.int .u8 1))), some (33, true)⟩,
 oQ 39 (.pick (.t 33) (.t 38) (.c (.bool false))),
 oQ 40 (.mov (.t 39)),
 ⟨some 41, .op (.mov (.t 4)), some (40, true)⟩,
 ⟨some 42, .op (.iaddr 5 (.t 41) (.c (.int .i64 0))), some (40, true)⟩,
 ⟨some 43, .op (.faddr 1 (.t 42)), some (40, true)⟩,
 ⟨some 44, .op (.load false 1 (.t 43)), some (40, true)⟩,
 ⟨some 45, .op (.mov (.t 3)), some (40, true)⟩,
 ⟨some 46, .op (.bin 0 .eql (.t 44) (.t 45)), some (40, true)⟩,
 oQ 47 (.pick (.t 40) (.t 46) (.c (.bool false))),
 oQ 48 (.mov (.t 47)),
 ⟨some 49, .op (.mov (.t 4)), some (48, true)⟩,
 ⟨some 50, .op (.iaddr 5 (.t 49) (.c (.int .i64 0))), some (48, true)⟩,
 ⟨some 51, .op (.faddr 3 (.t 50)), some (48, true)⟩,
 ⟨some 52, .op (.load true 2 (.t 51)), some (48, true)⟩,
 ⟨some 53, .op (.load true 3 (.t 1)), some (48, true)⟩,
 ⟨some 54, .call true (.c (.fn 11 [] [])) [.t 53], some (48, true)⟩,
 ⟨some 55, .call false (.c (.fn 10 [] [])) [.t 52, .t 54], some (48, true)⟩,
 oQ 56 (.pick (.t 48) (.t 55) (.c (.bool false))),
 oQ 2 (.mov (.t 56))])
 .ret)))))
def c4 : CF := ⟨57, 1, [.mov (.t 2)], b4⟩
theorem s88 : stripF Go.Proofs.Try.prog 88 = some c88 := by kernel_rfl
theorem s87 : stripF Go.Proofs.Try.prog 87 = some c87 := by kernel_rfl
theorem s96 : stripF Go.Proofs.Try.prog 96 = some c96 := by kernel_rfl
theorem s86 : stripF Go.Proofs.Try.prog 86 = some c86 := by kernel_rfl
theorem s70 : stripF Go.Proofs.Try.prog 70 = some c70 := by kernel_rfl
theorem s38 : stripF Go.Proofs.Try.prog 38 = some c38 := by kernel_rfl
theorem s21 : stripF Go.Proofs.Try.prog 21 = some c21 := by kernel_rfl
theorem s41 : stripF Go.Proofs.Try.prog 41 = some c41 := by kernel_rfl
theorem s40 : stripF Go.Proofs.Try.prog 40 = some c40 := by kernel_rfl
theorem s22 : stripF Go.Proofs.Try.prog 22 = some c22 := by kernel_rfl
theorem s10 : stripF Go.Proofs.Try.prog 10 = some c10 := by kernel_rfl
theorem s4 : stripF Go.Proofs.Try.prog 4 = some c4 := by kernel_rfl

/-! ### What is reckoned -/
def cloneY (f : FuncId) (ar : List V) (H : Heap) : Option (V × Heap) := if f = 60 then cloneX 1 4 ar H else none
theorem cloneY_ok : ExtOK Go.Proofs.Try.prog cloneY := by
  intro f ar H v H' h
  unfold cloneY at h
  split at h
  · rename_i hf; subst hf; exact clone_ok mix (show stripF Go.Proofs.Try.prog 60 = some (cloneC 1 4) by kernel_rfl) h
  cases h
def int0 (ex : Bool) : V := .agg [.sl false [] 0, .sl false [.int .u8 1, .bool false, .sl false [] 0, .sl false [.int .u32 1] 1, .int .i32 0, .sl ex [] 0] 1]
theorem good12z : Good Go.Proofs.Try.prog 12 [.int .i64 0] (int0 true) := good_evr (T := stripF Go.Proofs.Try.prog) mix (fun _ _ h => h) cloneY_ok 2000 (by kernel_rfl)
theorem good21z : Good Go.Proofs.Try.prog 21 [int0 false] (.bool true) := good_evr (T := stripF Go.Proofs.Try.prog) mix (fun _ _ h => h) cloneY_ok 2000 (by kernel_rfl)
theorem good22z : Good Go.Proofs.Try.prog 22 [int0 false, int0 false] (.bool true) := good_evr (T := stripF Go.Proofs.Try.prog) mix (fun _ _ h => h) cloneY_ok 2000 (by kernel_rfl)
theorem good84z : Good Go.Proofs.Try.prog 84 [.sl false [] 0] (.tup [.int .i64 1, .int .i64 0]) := good_evr (T := stripF Go.Proofs.Try.prog) mix (fun _ _ h => h) cloneY_ok 2000 (by kernel_rfl)
theorem good39z : Good Go.Proofs.Try.prog 39 [.sl false [] 0, .sl false [] 0] (.bool true) := good_evr (T := stripF Go.Proofs.Try.prog) mix (fun _ _ h => h) cloneY_ok 2000 (by kernel_rfl)
theorem good42z : Good Go.Proofs.Try.prog 42 [.sl false [] 0, .sl false [] 0, .fn 22 [] []] (.bool true) := good_evr (T := stripF Go.Proofs.Try.prog) mix (fun _ _ h => h) cloneY_ok 2000 (by kernel_rfl)
theorem good85n (b : Bool) (n d : Nat) : Good Go.Proofs.Try.prog 85 [scalarV (itemN b n d)] (.bool true) := good_evr (T := stripF Go.Proofs.Try.prog) mix (fun _ _ h => h) cloneY_ok 2000 (by kernel_rfl)
theorem good10z : Good Go.Proofs.Try.prog 10 [int0 true, int0 true] (.bool true) := by
  have h1 := good_le (vs := [int0 true]) good21z (by kernel_rfl)
  have h2 := good_le (vs := [int0 true, int0 true]) good22z (by kernel_rfl)
  refine good_go mix s10 (Nat.le_of_ble_eq_true rfl) fun e he => ?_
  have e0 : e 0 = int0 true := he 0
  have e1 : e 1 = int0 true := he 1
  clear he
  simp only [c10,b10, oQ]
  simp only [int0] at *
  simp -implicitDefEqProofs (disch := omega) only [↓ZD,ZP,cnd_t,cnd_f,↓reduceIte,Env.put,stepO,lenV,binV,binInt,unV,loadV,sliceV,boundOf,convV,slstrV,if_pos,if_neg,Int.reduceToNat,Nat.reducePow,V.cells,V.isCell,V.boxable,Nat.reduceEqDiff,reduceCtorEq,reduceIte,ite_self,enterEnv,e0,e1]
  refine calP_ro rfl h1 rfl ?_
  simp -implicitDefEqProofs (disch := omega) only [↓ZD,ZP,cnd_t,cnd_f,↓reduceIte,Env.put,stepO,lenV,binV,binInt,unV,loadV,sliceV,boundOf,convV,slstrV,if_pos,if_neg,Int.reduceToNat,Nat.reducePow,V.cells,V.isCell,V.boxable,Nat.reduceEqDiff,reduceCtorEq,reduceIte,ite_self,enterEnv,e0,e1]
  refine calP_ro rfl h1 rfl ?_
  simp -implicitDefEqProofs (disch := omega) only [↓ZD,ZP,cnd_t,cnd_f,↓reduceIte,Env.put,stepO,lenV,binV,binInt,unV,loadV,sliceV,boundOf,convV,slstrV,if_pos,if_neg,Int.reduceToNat,Nat.reducePow,V.cells,V.isCell,V.boxable,Nat.reduceEqDiff,reduceCtorEq,reduceIte,ite_self,enterEnv,e0,e1]
  refine calP_ro rfl h2 rfl ?_
  simp -implicitDefEqProofs (disch := omega) only [↓ZD,ZP,cnd_t,cnd_f,↓reduceIte,Env.put,stepO,lenV,binV,binInt,unV,loadV,sliceV,boundOf,convV,slstrV,if_pos,if_neg,Int.reduceToNat,Nat.reducePow,V.cells,V.isCell,V.boxable,Nat.reduceEqDiff,reduceCtorEq,reduceIte,ite_self,enterEnv,e0,e1]
  exact gives_eq rfl rfl

/-! ### A number's scalar is right, and the same as itself -/
theorem call88 (b : Bool) (n d k : Nat) (h : NumOK b n d) (H : Heap) (K : V → Heap → Prop) (hK : ∀ X, K (.bool true) (H ++ X)) : Call2 Go.Proofs.Try.prog 88 [.cell k 0 0, .agg (itemN b n d), .int .i64 0] H K := by
  have h9 := right9 b n d h
  refine call2_go mix s88 (Nat.le_of_ble_eq_true rfl) fun e he => ?_
  have e0 : e 0 = .cell k 0 0 := he 0
  have e1 : e 1 = .agg (itemN b n d) := he 1
  have e2 : e 2 = .int .i64 0 := he 2
  clear he
  have hro : roL [V.agg [.bool b, .sl false (nl (lim n)) (lim n).length, .sl false (nl (lim d)) (lim d).length]] = true := rv_ro b n d |> fun h => by simpa [roL, rv, nf, nsl] using h
  simp only [rv,nf,nsl] at h9
  have fin := hK [.cells 0 0 true (itemN b n d)]
  simp only [c88,b88, oQ]
  simp only [itemN,nf,nsl] at e1 fin
  cases b with
  | true =>
    simp -implicitDefEqProofs (disch := (first | omega | (simp only [List.length_append,List.length_set,List.length_cons,List.length_nil]; try omega; done))) only [↓ZD,ZP,ZL,cnd_t,cnd_f,↓reduceIte,Env.put,stepO,lenV,binV,binInt,unV,loadV,sliceV,boundOf,convV,slstrV,if_pos,if_neg,Int.reduceToNat,Nat.reducePow,V.cells,V.isCell,V.boxable,Nat.reduceEqDiff,reduceCtorEq,reduceIte,ite_self,enterEnv,e0,e1,e2]
    refine calP_ro hro h9 rfl ?_
    simp -implicitDefEqProofs (disch := (first | omega | (simp only [List.length_append,List.length_set,List.length_cons,List.length_nil]; try omega; done))) only [↓ZD,ZP,ZL,cnd_t,cnd_f,↓reduceIte,Env.put,stepO,lenV,binV,binInt,unV,loadV,sliceV,boundOf,convV,slstrV,if_pos,if_neg,Int.reduceToNat,Nat.reducePow,V.cells,V.isCell,V.boxable,Nat.reduceEqDiff,reduceCtorEq,reduceIte,ite_self,enterEnv,e0,e1,e2]
    exact fin
  | false =>
    by_cases hz : (lim n).length = 0
    · simp -implicitDefEqProofs (disch := (first | omega | (simp only [List.length_append,List.length_set,List.length_cons,List.length_nil]; try omega; done))) only [↓ZD,ZP,ZL,cnd_t,cnd_f,↓reduceIte,Env.put,stepO,lenV,binV,binInt,unV,loadV,sliceV,boundOf,convV,slstrV,if_pos,if_neg,Int.reduceToNat,Nat.reducePow,V.cells,V.isCell,V.boxable,Nat.reduceEqDiff,reduceCtorEq,reduceIte,ite_self,enterEnv,e0,e1,e2,hz]
      rw [hz] at h9 hro fin
      refine calP_ro hro h9 rfl ?_
      simp -implicitDefEqProofs (disch := (first | omega | (simp only [List.length_append,List.length_set,List.length_cons,List.length_nil]; try omega; done))) only [↓ZD,ZP,ZL,cnd_t,cnd_f,↓reduceIte,Env.put,stepO,lenV,binV,binInt,unV,loadV,sliceV,boundOf,convV,slstrV,if_pos,if_neg,Int.reduceToNat,Nat.reducePow,V.cells,V.isCell,V.boxable,Nat.reduceEqDiff,reduceCtorEq,reduceIte,ite_self,enterEnv,e0,e1,e2,hz]
      exact fin
    · simp -implicitDefEqProofs (disch := (first | omega | (simp only [List.length_append,List.length_set,List.length_cons,List.length_nil]; try omega; done))) only [↓ZD,ZP,ZL,cnd_t,cnd_f,↓reduceIte,Env.put,stepO,lenV,binV,binInt,unV,loadV,sliceV,boundOf,convV,slstrV,if_pos,if_neg,Int.reduceToNat,Nat.reducePow,V.cells,V.isCell,V.boxable,Nat.reduceEqDiff,reduceCtorEq,reduceIte,ite_self,enterEnv,e0,e1,e2]
      refine calP_ro hro h9 rfl ?_
      simp -implicitDefEqProofs (disch := (first | omega | (simp only [List.length_append,List.length_set,List.length_cons,List.length_nil]; try omega; done))) only [↓ZD,ZP,ZL,cnd_t,cnd_f,↓reduceIte,Env.put,stepO,lenV,binV,binInt,unV,loadV,sliceV,boundOf,convV,slstrV,if_pos,if_neg,Int.reduceToNat,Nat.reducePow,V.cells,V.isCell,V.boxable,Nat.reduceEqDiff,reduceCtorEq,reduceIte,ite_self,enterEnv,e0,e1,e2]
      exact fin
end Fe
open Go Go.Proofs
namespace Fe

theorem get_app {H X : Heap} {k : Nat} {x : HObj} (h : H[k]? = some x) : (H ++ X)[k]? = some x := by
  rw [List.getElem?_append_left (getElem?_lt h)]; exact h

theorem calP_heapc {P : Program} {f : FuncId} {ar cap : List V} {d : Option Nat} {lim : Option Nat} {os : List Op} {e : Env} {H : Heap} {S : List Fr} {K : Cont} (h : Call2 P f (ar ++ cap) H fun r H' => ops P lim os (e.put d r) H' S K) : calP P (.fn f [] cap) ar d lim os e H S K := by
  refine .inr ?_
  have ha : [] ++ ar ++ cap = ar ++ cap := by simp
  show Call2 P f ([] ++ ar ++ cap) H _
  rw [ha]
  exact h

theorem call87 (b : Bool) (n d k kx kd gx gd : Nat) (h : NumOK b n d) (H : Heap) (hx : H[kx]? = some (.cells gx 0 true [.cell k 0 0])) (hd : H[kd]? = some (.cells gd 0 true [.int .i64 0])) (K : V → Heap → Prop) (hK : ∀ X, K (.bool false) (H ++ X)) :
    Call2 Go.Proofs.Try.prog 87 [.agg (itemN b n d), .cell kx gx 0, .cell kd gd 0] H K := by
  have lx := getElem?_lt hx
  have ld := getElem?_lt hd
  refine call2_go mix s87 (Nat.le_of_ble_eq_true rfl) fun e he => ?_
  have e0 : e 0 = .agg (itemN b n d) := he 0
  have e1 : e 1 = .cell kx gx 0 := he 1
  have e2 : e 2 = .cell kd gd 0 := he 2
  clear he
  simp only [c87,b87, oQ]
  have h88 := fun H K hK => call88 b n d k h H K hK
  have gx' := get_app (X := [HObj.cells 0 0 true (itemN b n d)]) hx
  have gd' := get_app (X := [HObj.cells 0 0 true (itemN b n d)]) hd
  simp only [itemN,nf,nsl] at e0 h88 gx' gd'
  simp -implicitDefEqProofs (disch := (first | omega | (simp only [List.length_append,List.length_set,List.length_cons,List.length_nil]; try omega; done))) only [↓ZD,ZP,ZL,cnd_t,cnd_f,↓reduceIte,Env.put,stepO,lenV,binV,binInt,unV,loadV,sliceV,boundOf,convV,slstrV,if_pos,if_neg,Int.reduceToNat,Nat.reducePow,V.cells,V.isCell,V.boxable,Nat.reduceEqDiff,reduceCtorEq,reduceIte,ite_self,enterEnv,e0,e1,e2,hx,hd,gx',gd']
  refine calP_heap (h88 _ _ fun X => ?_)
  simp -implicitDefEqProofs (disch := (first | omega | (simp only [List.length_append,List.length_set,List.length_cons,List.length_nil]; try omega; done))) only [↓ZD,ZP,ZL,cnd_t,cnd_f,↓reduceIte,Env.put,stepO,lenV,binV,binInt,unV,loadV,sliceV,boundOf,convV,slstrV,if_pos,if_neg,Int.reduceToNat,Nat.reducePow,V.cells,V.isCell,V.boxable,Nat.reduceEqDiff,reduceCtorEq,reduceIte,ite_self,enterEnv,e0,e1,e2]
  have := hK ([HObj.cells 0 0 true [.int .u8 1, .bool b, .sl false (nl (lim n)) (lim n).length, .sl false (nl (lim d)) (lim d).length, .int .i32 0, .sl false [] 0]] ++ X)
  rwa [← List.append_assoc] at this

theorem call96 (ex b : Bool) (n d k kx kd gx gd : Nat) (h : NumOK b n d) (H : Heap) (hx : H[kx]? = some (.cells gx 0 true [.cell k 0 0])) (hd : H[kd]? = some (.cells gd 0 true [.int .i64 0])) (K : V → Heap → Prop) (hK : ∀ X, K (.int .i64 (-1)) (H ++ X)) :
    Call2 Go.Proofs.Try.prog 96 [.sl ex (itemN b n d) 1, .fn 87 [] [.cell kx gx 0, .cell kd gd 0]] H K := by
  refine call2_go mix s96 (Nat.le_of_ble_eq_true rfl) fun e he => ?_
  have e0 : e 0 = .sl ex (itemN b n d) 1 := he 0
  have e1 : e 1 = .fn 87 [] [.cell kx gx 0, .cell kd gd 0] := he 1
  clear he
  have hlen : (itemN b n d).length = 6 := rfl
  have htk : (itemN b n d).take 6 = itemN b n d := rfl
  have h87 := fun H hx hd K hK => call87 b n d k kx kd gx gd h H hx hd K hK
  simp only [c96,b96, oQ]
  generalize itemN b n d = it at *
  simp -implicitDefEqProofs (disch := (first | omega | (simp only [List.length_append,List.length_set,List.length_cons,List.length_nil]; try omega; done))) only [↓ZD,ZP,ZL,cnd_t,cnd_f,↓reduceIte,Env.put,stepO,lenV,binV,binInt,unV,loadV,sliceV,boundOf,convV,slstrV,if_pos,if_neg,Int.reduceToNat,Nat.reducePow,V.cells,V.isCell,V.boxable,Nat.reduceEqDiff,reduceCtorEq,reduceIte,ite_self,enterEnv,e0,e1]
  refine go_loop (fun m e H' => (m = 1 ∧ H' = H ∧ e 0 = .sl ex it 1 ∧ e 1 = .fn 87 [] [.cell kx gx 0, .cell kd gd 0] ∧ e 7 = .int .i64 ((1 : Nat) : Int) ∧ e 8 = .int .i64 0) ∨ (m = 0 ∧ (∃ X, H' = H ++ X) ∧ e 7 = .int .i64 ((1 : Nat) : Int) ∧ e 8 = .int .i64 1)) 1
    (.inl ⟨rfl, rfl, by simp [Env.set, e0], by simp [Env.set, e1], by simp [Env.set], by simp [Env.set]⟩) ?_
  clear e0 e1
  rintro m e H' (⟨rfl, rfl, e0, e1, e7, e8⟩ | ⟨rfl, ⟨X, rfl⟩, e7, e8⟩)
  · simp -implicitDefEqProofs (disch := (first | omega | (simp only [List.length_append,List.length_set,List.length_cons,List.length_nil]; try omega; done))) only [↓ZD,ZP,ZL,cnd_t,cnd_f,↓reduceIte,Env.put,stepO,lenV,binV,binInt,unV,loadV,sliceV,boundOf,convV,slstrV,if_pos,if_neg,Int.reduceToNat,Nat.reducePow,V.cells,V.isCell,V.boxable,Nat.reduceEqDiff,reduceCtorEq,reduceIte,ite_self,enterEnv,e0,e1,e7,e8,hlen,Nat.zero_mul,List.drop_zero,htk]
    refine calP_heapc (h87 _ hx hd _ fun X => ?_)
    simp -implicitDefEqProofs (disch := (first | omega | (simp only [List.length_append,List.length_set,List.length_cons,List.length_nil]; try omega; done))) only [↓ZD,ZP,ZL,cnd_t,cnd_f,↓reduceIte,Env.put,stepO,lenV,binV,binInt,unV,loadV,sliceV,boundOf,convV,slstrV,if_pos,if_neg,Int.reduceToNat,Nat.reducePow,V.cells,V.isCell,V.boxable,Nat.reduceEqDiff,reduceCtorEq,reduceIte,ite_self,enterEnv,e0,e1,e7,e8]
    exact ⟨0, by omega, .inr ⟨rfl, ⟨X, rfl⟩, rfl⟩⟩
  · simp -implicitDefEqProofs (disch := (first | omega | (simp only [List.length_append,List.length_set,List.length_cons,List.length_nil]; try omega; done))) only [↓ZD,ZP,ZL,cnd_t,cnd_f,↓reduceIte,Env.put,stepO,lenV,binV,binInt,unV,loadV,sliceV,boundOf,convV,slstrV,if_pos,if_neg,Int.reduceToNat,Nat.reducePow,V.cells,V.isCell,V.boxable,Nat.reduceEqDiff,reduceCtorEq,reduceIte,ite_self,enterEnv,e7,e8]
    exact hK X

theorem call86 (ex b : Bool) (n d k kx kd gx gd : Nat) (h : NumOK b n d) (H : Heap) (hx : H[kx]? = some (.cells gx 0 true [.cell k 0 0])) (hd : H[kd]? = some (.cells gd 0 true [.int .i64 0])) (K : V → Heap → Prop) (hK : ∀ X, K (.bool false) (H ++ X)) :
    Call2 Go.Proofs.Try.prog 86 [.sl ex (itemN b n d) 1, .fn 87 [] [.cell kx gx 0, .cell kd gd 0]] H K := by
  refine call2_go mix s86 (Nat.le_of_ble_eq_true rfl) fun e he => ?_
  have e0 : e 0 = .sl ex (itemN b n d) 1 := he 0
  have e1 : e 1 = .fn 87 [] [.cell kx gx 0, .cell kd gd 0] := he 1
  clear he
  simp only [c86,b86, oQ]
  simp -implicitDefEqProofs (disch := (first | omega | (simp only [List.length_append,List.length_set,List.length_cons,List.length_nil]; try omega; done))) only [↓ZD,ZP,ZL,cnd_t,cnd_f,↓reduceIte,Env.put,stepO,lenV,binV,binInt,unV,loadV,sliceV,boundOf,convV,slstrV,if_pos,if_neg,Int.reduceToNat,Nat.reducePow,V.cells,V.isCell,V.boxable,Nat.reduceEqDiff,reduceCtorEq,reduceIte,ite_self,enterEnv,e0,e1]
  refine calP_heap (call96 ex b n d k kx kd gx gd h H hx hd _ fun X => ?_)
  simp -implicitDefEqProofs (disch := (first | omega | (simp only [List.length_append,List.length_set,List.length_cons,List.length_nil]; try omega; done))) only [↓ZD,ZP,ZL,cnd_t,cnd_f,↓reduceIte,Env.put,stepO,lenV,binV,binInt,unV,loadV,sliceV,boundOf,convV,slstrV,if_pos,if_neg,Int.reduceToNat,Nat.reducePow,V.cells,V.isCell,V.boxable,Nat.reduceEqDiff,reduceCtorEq,reduceIte,ite_self,enterEnv,e0,e1]
  exact hK X

theorem call70 (b : Bool) (n d k : Nat) (h : NumOK b n d) (H : Heap) (hk : H[k]? = some (.cells 0 0 true [.int .i64 0, .int .i64 0])) (K : V → Heap → Prop)
    (hK : ∀ X, K (.bool true) (H.set k (.cells 0 0 true [.int .i64 1, .int .i64 0]) ++ X)) : Call2 Go.Proofs.Try.prog 70 [.cell k 0 0, scalarV (itemN b n d), .int .i64 0] H K := by
  have lk := getElem?_lt hk
  refine call2_go mix s70 (Nat.le_of_ble_eq_true rfl) fun e he => ?_
  have e0 : e 0 = .cell k 0 0 := he 0
  have e1 : e 1 = scalarV (itemN b n d) := he 1
  have e2 : e 2 = .int .i64 0 := he 2
  clear he
  have h85 := good85n b n d
  have hro : roL (itemN b n d) = true := by simp [itemN, roL, V.ro, nf_ro]
  have hlen : (itemN b n d).length = 6 := rfl
  have hat : (itemN b n d)[0]? = some (.int .u8 1) := rfl
  simp only [c70,b70, oQ]
  have h86 := fun ex kx kd gx gd H hx hd K hK => call86 ex b n d k kx kd gx gd h H hx hd K hK
  simp only [scalarV] at e1 h85
  have hro85 : roL [V.agg [.sl false [] 0, .sl false (itemN b n d) 1]] = true := by simp [roL, V.ro, hro]
  have hspl : ∀ x y z : V, splice [x, y] 0 [z] = [z, y] := fun _ _ _ => rfl
  have h01 : (0 : Int) + ((1 : Nat) : Int) = 1 := rfl
  have hset : ∀ (A B C x : HObj), (H ++ [A] ++ [B] ++ [C]).set k x = H.set k x ++ [A] ++ [B] ++ [C] := fun A B C x => by
    rw [List.set_append_left _ _ (by simp; omega), List.set_append_left _ _ (by simp; omega), List.set_append_left _ _ lk]
  have hget : ∀ x : HObj, (H.set k x)[k]? = some x := fun x => List.getElem?_set_self lk
  have hls : ∀ x : HObj, (H.set k x).length = H.length := fun x => List.length_set
  generalize itemN b n d = it at *
  simp -implicitDefEqProofs (disch := (first | omega | (simp only [List.length_append,List.length_set,List.length_cons,List.length_nil]; try omega; done))) only [↓ZD,ZP,ZL,cnd_t,cnd_f,↓reduceIte,Env.put,stepO,lenV,binV,binInt,unV,loadV,sliceV,boundOf,convV,slstrV,if_pos,if_neg,Int.reduceToNat,Nat.reducePow,V.cells,V.isCell,V.boxable,Nat.reduceEqDiff,reduceCtorEq,reduceIte,ite_self,enterEnv,e0,e1,e2,hk]
  refine calP_ro rfl good84z rfl ?_
  simp -implicitDefEqProofs (disch := (first | omega | (simp only [List.length_append,List.length_set,List.length_cons,List.length_nil]; try omega; done))) only [↓ZD,ZP,ZL,cnd_t,cnd_f,↓reduceIte,Env.put,stepO,lenV,binV,binInt,unV,loadV,sliceV,boundOf,convV,slstrV,if_pos,if_neg,Int.reduceToNat,Nat.reducePow,V.cells,V.isCell,V.boxable,Nat.reduceEqDiff,reduceCtorEq,reduceIte,ite_self,enterEnv,e0,e1,e2,hk,hspl,h01,hset,hget,hls]
  refine calP_ro hro85 h85 rfl ?_
  simp -implicitDefEqProofs (disch := (first | omega | (simp only [List.length_append,List.length_set,List.length_cons,List.length_nil]; try omega; done))) only [↓ZD,ZP,ZL,cnd_t,cnd_f,↓reduceIte,Env.put,stepO,lenV,binV,binInt,unV,loadV,sliceV,boundOf,convV,slstrV,if_pos,if_neg,Int.reduceToNat,Nat.reducePow,V.cells,V.isCell,V.boxable,Nat.reduceEqDiff,reduceCtorEq,reduceIte,ite_self,enterEnv,e0,e1,e2,hk,hspl,h01,hset,hget,hls]
  refine calP_heap (h86 _ _ _ _ _ _ ?_ ?_ _ fun X => ?_)
  · simp -implicitDefEqProofs (disch := (first | omega | (simp only [List.length_append,List.length_set,List.length_cons,List.length_nil]; try omega; done))) only [get_push_at,get_push_eq,set_push,get_push,get_set_ne,get_set_self,len_push,len_set,hls]
  · simp -implicitDefEqProofs (disch := (first | omega | (simp only [List.length_append,List.length_set,List.length_cons,List.length_nil]; try omega; done))) only [get_push_at,get_push_eq,set_push,get_push,get_set_ne,get_set_self,len_push,len_set,hls]
  · simp -implicitDefEqProofs (disch := (first | omega | (simp only [List.length_append,List.length_set,List.length_cons,List.length_nil]; try omega; done))) only [↓ZD,ZP,ZL,cnd_t,cnd_f,↓reduceIte,Env.put,stepO,lenV,binV,binInt,unV,loadV,sliceV,boundOf,convV,slstrV,if_pos,if_neg,Int.reduceToNat,Nat.reducePow,V.cells,V.isCell,V.boxable,Nat.reduceEqDiff,reduceCtorEq,reduceIte,ite_self,enterEnv,e0,e1,e2]
    simp only [List.append_assoc]
    exact hK _

theorem good38n (b : Bool) (n d : Nat) (h : NumOK b n d) : Good Go.Proofs.Try.prog 38 [scalarV (itemN b n d)] (.tup [.agg [.int .i64 1, .int .i64 0], .bool true]) := by
  have h70 := fun k H hk K hK => call70 b n d k h H hk K hK
  refine good_go mix s38 (Nat.le_of_ble_eq_true rfl) fun e he => ?_
  have e0 : e 0 = scalarV (itemN b n d) := he 0
  clear he
  simp only [scalarV] at e0 h70
  have hspl : ∀ x y z w : V, splice [x, y] 0 [z, w] = [z, w] := fun _ _ _ _ => rfl
  simp only [c38,b38, oQ]
  generalize itemN b n d = it at *
  simp -implicitDefEqProofs (disch := omega) only [↓ZD,ZP,cnd_t,cnd_f,↓reduceIte,Env.put,stepO,lenV,binV,binInt,unV,loadV,sliceV,boundOf,convV,slstrV,if_pos,if_neg,Int.reduceToNat,Nat.reducePow,V.cells,V.isCell,V.boxable,Nat.reduceEqDiff,reduceCtorEq,reduceIte,ite_self,enterEnv,e0]
  refine calP_heap (h70 2 _ rfl _ fun X => ?_)
  simp -implicitDefEqProofs (disch := (first | omega | (simp only [List.length_append,List.length_set,List.length_cons,List.length_nil]; try omega; done))) only [↓ZD,ZP,ZL,cnd_t,cnd_f,↓reduceIte,Env.put,stepO,lenV,binV,binInt,unV,loadV,sliceV,boundOf,convV,slstrV,if_pos,if_neg,Int.reduceToNat,Nat.reducePow,V.cells,V.isCell,V.boxable,Nat.reduceEqDiff,reduceCtorEq,reduceIte,ite_self,enterEnv,e0,List.take_succ_cons,List.take_zero,List.drop_zero,hspl]
  exact gives_eq rfl rfl

theorem good21n (b : Bool) (n d : Nat) (h : NumOK b n d) : Good Go.Proofs.Try.prog 21 [scalarV (itemN b n d)] (.bool true) := by
  have h38 := good38n b n d h
  have hro : roL [scalarV (itemN b n d)] = true := by simp [scalarV, itemN, roL, V.ro, nf_ro]
  refine good_go mix s21 (Nat.le_of_ble_eq_true rfl) fun e he => ?_
  have e0 : e 0 = scalarV (itemN b n d) := he 0
  clear he
  simp only [scalarV] at e0 h38 hro
  have hspl : ∀ x y z w : V, splice [x, y] 0 [z, w] = [z, w] := fun _ _ _ _ => rfl
  simp only [c21,b21, oQ]
  generalize itemN b n d = it at *
  simp -implicitDefEqProofs (disch := omega) only [↓ZD,ZP,cnd_t,cnd_f,↓reduceIte,Env.put,stepO,lenV,binV,binInt,unV,loadV,sliceV,boundOf,convV,slstrV,if_pos,if_neg,Int.reduceToNat,Nat.reducePow,V.cells,V.isCell,V.boxable,Nat.reduceEqDiff,reduceCtorEq,reduceIte,ite_self,enterEnv,e0]
  refine calP_ro hro h38 rfl ?_
  simp -implicitDefEqProofs (disch := omega) only [↓ZD,ZP,cnd_t,cnd_f,↓reduceIte,Env.put,stepO,lenV,binV,binInt,unV,loadV,sliceV,boundOf,convV,slstrV,if_pos,if_neg,Int.reduceToNat,Nat.reducePow,V.cells,V.isCell,V.boxable,Nat.reduceEqDiff,reduceCtorEq,reduceIte,ite_self,enterEnv,e0,hspl]
  exact gives_eq rfl rfl

theorem good41n (b : Bool) (n d : Nat) (h : NumOK b n d) : Good Go.Proofs.Try.prog 41 [.agg (itemN b n d), .agg (itemN b n d)] (.bool true) := by
  have hl : (lim n).length ≤ 1100000 := by have := h.1; omega
  have hl2 : (lim d).length ≤ 1100000 := by have := h.2.1; omega
  have h17n := good17 false false (lim n) hl
  have h17d := good17 false false (lim d) hl2
  have hr1 : roL [nsl false (lim n), nsl false (lim n)] = true := by simp [roL, nsl_ro]
  have hr2 : roL [nsl false (lim d), nsl false (lim d)] = true := by simp [roL, nsl_ro]
  refine good_go mix s41 (Nat.le_of_ble_eq_true rfl) fun e he => ?_
  have e0 : e 0 = .agg (itemN b n d) := he 0
  have e1 : e 1 = .agg (itemN b n d) := he 1
  clear he
  simp only [c41,b41, oQ]
  simp only [itemN,nf,nsl] at e0 e1 h17n h17d hr1 hr2
  simp -implicitDefEqProofs (disch := omega) only [↓ZD,ZP,cnd_t,cnd_f,↓reduceIte,Env.put,stepO,lenV,binV,binInt,unV,loadV,sliceV,boundOf,convV,slstrV,if_pos,if_neg,Int.reduceToNat,Nat.reducePow,V.cells,V.isCell,V.boxable,Nat.reduceEqDiff,reduceCtorEq,reduceIte,ite_self,enterEnv,e0,e1]
  refine calP_ro hr1 h17n rfl ?_
  simp -implicitDefEqProofs (disch := omega) only [↓ZD,ZP,cnd_t,cnd_f,↓reduceIte,Env.put,stepO,lenV,binV,binInt,unV,loadV,sliceV,boundOf,convV,slstrV,if_pos,if_neg,Int.reduceToNat,Nat.reducePow,V.cells,V.isCell,V.boxable,Nat.reduceEqDiff,reduceCtorEq,reduceIte,ite_self,enterEnv,e0,e1]
  refine calP_ro hr2 h17d rfl ?_
  simp -implicitDefEqProofs (disch := omega) only [↓ZD,ZP,cnd_t,cnd_f,↓reduceIte,Env.put,stepO,lenV,binV,binInt,unV,loadV,sliceV,boundOf,convV,slstrV,if_pos,if_neg,Int.reduceToNat,Nat.reducePow,V.cells,V.isCell,V.boxable,Nat.reduceEqDiff,reduceCtorEq,reduceIte,ite_self,enterEnv,e0,e1]
  refine calP_ro rfl good42z rfl ?_
  simp -implicitDefEqProofs (disch := omega) only [↓ZD,ZP,cnd_t,cnd_f,↓reduceIte,Env.put,stepO,lenV,binV,binInt,unV,loadV,sliceV,boundOf,convV,slstrV,if_pos,if_neg,Int.reduceToNat,Nat.reducePow,V.cells,V.isCell,V.boxable,Nat.reduceEqDiff,reduceCtorEq,reduceIte,ite_self,enterEnv,e0,e1]
  exact gives_eq rfl rfl

theorem good40n (b : Bool) (n d : Nat) (h : NumOK b n d) : Good Go.Proofs.Try.prog 40 [.sl false (itemN b n d) 1, .sl false (itemN b n d) 1, .fn 41 [] []] (.bool true) := by
  have h41 := good41n b n d h
  have hlen : (itemN b n d).length = 6 := rfl
  have htk : (itemN b n d).take 6 = itemN b n d := rfl
  have hc : (itemN b n d).all V.isCell = true := rfl
  have hbx : (V.agg (itemN b n d)).boxable = true := rfl
  have hro : roL [V.agg (itemN b n d), V.agg (itemN b n d)] = true := by simp [itemN, roL, V.ro, nf_ro]
  have hspl : ∀ (l m : List V), l.length = 6 → m.length = 6 → splice l 0 m = m := fun l m h1 h2 => by
    simp [splice, h2, List.drop_eq_nil_of_le (show l.length ≤ 6 by omega)]
  have hs2 := hspl [.int .u8 0, .bool false, .sl true [] 0, .sl true [] 0, .int .i32 0, .sl true [] 0] (itemN b n d) rfl rfl
  refine good_go mix s40 (Nat.le_of_ble_eq_true rfl) fun e he => ?_
  have e0 : e 0 = .sl false (itemN b n d) 1 := he 0
  have e1 : e 1 = .sl false (itemN b n d) 1 := he 1
  have e2 : e 2 = .fn 41 [] [] := he 2
  clear he
  simp only [c40,b40, oQ]
  generalize itemN b n d = it at *
  simp -implicitDefEqProofs (disch := omega) only [↓ZD,ZP,cnd_t,cnd_f,↓reduceIte,Env.put,stepO,lenV,binV,binInt,unV,loadV,sliceV,boundOf,convV,slstrV,if_pos,if_neg,Int.reduceToNat,Nat.reducePow,V.cells,V.isCell,V.boxable,Nat.reduceEqDiff,reduceCtorEq,reduceIte,ite_self,enterEnv,e0,e1,e2,bne_self_eq_false]
  refine go_loop (fun m e H => (m = 1 ∧ H = [] ∧ e 0 = .sl false it 1 ∧ e 1 = .sl false it 1 ∧ e 2 = .fn 41 [] [] ∧ e 15 = .sl false it 1 ∧ e 16 = .int .i64 ((1 : Nat) : Int) ∧ e 17 = .int .i64 0) ∨ (m = 0 ∧ e 16 = .int .i64 ((1 : Nat) : Int) ∧ e 17 = .int .i64 1)) 1
    (.inl ⟨rfl, rfl, by simp [Env.set, e0], by simp [Env.set, e1], by simp [Env.set, e2], by simp [Env.set], by simp [Env.set], by simp [Env.set]⟩) ?_
  clear e0 e1 e2
  rintro m e H (⟨rfl, rfl, e0, e1, e2, e15, e16, e17⟩ | ⟨rfl, e16, e17⟩)
  · simp -implicitDefEqProofs (disch := (first | omega | (simp only [List.length_append,List.length_set,List.length_cons,List.length_nil]; try omega; done))) only [↓ZD,ZP,ZL,cnd_t,cnd_f,↓reduceIte,Env.put,stepO,lenV,binV,binInt,unV,loadV,sliceV,boundOf,convV,slstrV,if_pos,if_neg,Int.reduceToNat,Nat.reducePow,V.cells,V.isCell,V.boxable,Nat.reduceEqDiff,reduceCtorEq,reduceIte,ite_self,enterEnv,e0,e1,e2,e15,e16,e17,hlen,htk,hc,hbx,hs2,Nat.zero_mul,List.drop_zero]
    refine calP_ro hro h41 rfl ?_
    simp -implicitDefEqProofs (disch := (first | omega | (simp only [List.length_append,List.length_set,List.length_cons,List.length_nil]; try omega; done))) only [↓ZD,ZP,ZL,cnd_t,cnd_f,↓reduceIte,Env.put,stepO,lenV,binV,binInt,unV,loadV,sliceV,boundOf,convV,slstrV,if_pos,if_neg,Int.reduceToNat,Nat.reducePow,V.cells,V.isCell,V.boxable,Nat.reduceEqDiff,reduceCtorEq,reduceIte,ite_self,enterEnv,e0,e1,e2,e15,e16,e17]
    exact ⟨0, by omega, .inr ⟨rfl, rfl⟩⟩
  · simp -implicitDefEqProofs (disch := omega) only [↓ZD,ZP,cnd_t,cnd_f,↓reduceIte,Env.put,stepO,lenV,binV,binInt,unV,loadV,sliceV,boundOf,convV,slstrV,if_pos,if_neg,Int.reduceToNat,Nat.reducePow,V.cells,V.isCell,V.boxable,Nat.reduceEqDiff,reduceCtorEq,reduceIte,ite_self,enterEnv,e16,e17]
    exact gives_eq rfl rfl

theorem good22n (b : Bool) (n d : Nat) (h : NumOK b n d) : Good Go.Proofs.Try.prog 22 [scalarV (itemN b n d), scalarV (itemN b n d)] (.bool true) := by
  have h40 := good40n b n d h
  have hro : roL [.sl false (itemN b n d) 1, .sl false (itemN b n d) 1, .fn 41 [] []] = true := by simp [itemN, roL, V.ro, nf_ro]
  refine good_go mix s22 (Nat.le_of_ble_eq_true rfl) fun e he => ?_
  have e0 : e 0 = scalarV (itemN b n d) := he 0
  have e1 : e 1 = scalarV (itemN b n d) := he 1
  clear he
  simp only [scalarV] at e0 e1
  simp only [c22,b22, oQ]
  generalize itemN b n d = it at *
  simp -implicitDefEqProofs (disch := omega) only [↓ZD,ZP,cnd_t,cnd_f,↓reduceIte,Env.put,stepO,lenV,binV,binInt,unV,loadV,sliceV,boundOf,convV,slstrV,if_pos,if_neg,Int.reduceToNat,Nat.reducePow,V.cells,V.isCell,V.boxable,Nat.reduceEqDiff,reduceCtorEq,reduceIte,ite_self,enterEnv,e0,e1]
  refine calP_ro rfl good39z rfl ?_
  simp -implicitDefEqProofs (disch := omega) only [↓ZD,ZP,cnd_t,cnd_f,↓reduceIte,Env.put,stepO,lenV,binV,binInt,unV,loadV,sliceV,boundOf,convV,slstrV,if_pos,if_neg,Int.reduceToNat,Nat.reducePow,V.cells,V.isCell,V.boxable,Nat.reduceEqDiff,reduceCtorEq,reduceIte,ite_self,enterEnv,e0,e1]
  refine calP_ro hro h40 rfl ?_
  simp -implicitDefEqProofs (disch := omega) only [↓ZD,ZP,cnd_t,cnd_f,↓reduceIte,Env.put,stepO,lenV,binV,binInt,unV,loadV,sliceV,boundOf,convV,slstrV,if_pos,if_neg,Int.reduceToNat,Nat.reducePow,V.cells,V.isCell,V.boxable,Nat.reduceEqDiff,reduceCtorEq,reduceIte,ite_self,enterEnv,e0,e1]
  exact gives_eq rfl rfl

theorem good10n (b : Bool) (n d : Nat) (h : NumOK b n d) : Good Go.Proofs.Try.prog 10 [scalarV (itemN b n d), scalarV (itemN b n d)] (.bool true) := by
  have h21 := good21n b n d h
  have h22 := good22n b n d h
  have hro : roL [scalarV (itemN b n d)] = true := by simp [scalarV, itemN, roL, V.ro, nf_ro]
  have hro2 : roL [scalarV (itemN b n d), scalarV (itemN b n d)] = true := by simp [scalarV, itemN, roL, V.ro, nf_ro]
  refine good_go mix s10 (Nat.le_of_ble_eq_true rfl) fun e he => ?_
  have e0 : e 0 = scalarV (itemN b n d) := he 0
  have e1 : e 1 = scalarV (itemN b n d) := he 1
  clear he
  simp only [scalarV] at e0 e1 h21 h22 hro hro2
  simp only [c10,b10, oQ]
  generalize itemN b n d = it at *
  simp -implicitDefEqProofs (disch := omega) only [↓ZD,ZP,cnd_t,cnd_f,↓reduceIte,Env.put,stepO,lenV,binV,binInt,unV,loadV,sliceV,boundOf,convV,slstrV,if_pos,if_neg,Int.reduceToNat,Nat.reducePow,V.cells,V.isCell,V.boxable,Nat.reduceEqDiff,reduceCtorEq,reduceIte,ite_self,enterEnv,e0,e1]
  refine calP_ro hro h21 rfl ?_
  simp -implicitDefEqProofs (disch := omega) only [↓ZD,ZP,cnd_t,cnd_f,↓reduceIte,Env.put,stepO,lenV,binV,binInt,unV,loadV,sliceV,boundOf,convV,slstrV,if_pos,if_neg,Int.reduceToNat,Nat.reducePow,V.cells,V.isCell,V.boxable,Nat.reduceEqDiff,reduceCtorEq,reduceIte,ite_self,enterEnv,e0,e1]
  refine calP_ro hro h21 rfl ?_
  simp -implicitDefEqProofs (disch := omega) only [↓ZD,ZP,cnd_t,cnd_f,↓reduceIte,Env.put,stepO,lenV,binV,binInt,unV,loadV,sliceV,boundOf,convV,slstrV,if_pos,if_neg,Int.reduceToNat,Nat.reducePow,V.cells,V.isCell,V.boxable,Nat.reduceEqDiff,reduceCtorEq,reduceIte,ite_self,enterEnv,e0,e1]
  refine calP_ro hro2 h22 rfl ?_
  simp -implicitDefEqProofs (disch := omega) only [↓ZD,ZP,cnd_t,cnd_f,↓reduceIte,Env.put,stepO,lenV,binV,binInt,unV,loadV,sliceV,boundOf,convV,slstrV,if_pos,if_neg,Int.reduceToNat,Nat.reducePow,V.cells,V.isCell,V.boxable,Nat.reduceEqDiff,reduceCtorEq,reduceIte,ite_self,enterEnv,e0,e1]
  exact gives_eq rfl rfl
end Fe
open Go Go.Proofs
namespace Fe

theorem leL_nl : ∀ l : List Nat, leL (nl l) (nl l) = true
  | [] => rfl
  | n :: l => by
    have := leL_nl l
    simp only [nl] at this
    simp only [nl,List.map_cons,leL,this,Bool.and_true]
    simp [limb, leV]
theorem le_rv (b ea eb : Bool) (n d : Nat) : leL [V.agg [.bool b, nsl ea (lim n), nsl eb (lim d)]] [rv b n d] = true := by
  simp [leL, leV, rv, nf, nsl, leL_nl]
theorem all_nil : allR [] = .tup [.sl false (endTok 0) 1, .int .i64 0, .int .i64 0] := by kernel_rfl

theorem good11f (b ea eb : Bool) (num den : List Nat) (h9 : Good Go.Proofs.Try.prog 9 [.agg [.bool b, nsl ea num, nsl eb den]] (.bool false)) : Good Go.Proofs.Try.prog 11 [.agg [.bool b, nsl ea num, nsl eb den]] (int0 true) := by
  have hro : roL [V.agg [.bool b, nsl ea num, nsl eb den]] = true := by simp [roL, V.ro, nsl_ro]
  have h12 := good12z
  refine good_go mix s11 (Nat.le_of_ble_eq_true rfl) fun e he => ?_
  have e0 : e 0 = .agg [.bool b, nsl ea num, nsl eb den] := he 0
  clear he
  simp only [c11,b11, oQ]
  simp only [nsl,int0] at *
  simp -implicitDefEqProofs (disch := omega) only [↓ZD,ZP,cnd_t,cnd_f,↓reduceIte,Env.put,stepO,lenV,binV,binInt,unV,loadV,sliceV,boundOf,convV,slstrV,if_pos,if_neg,Int.reduceToNat,Nat.reducePow,V.cells,V.isCell,V.boxable,Nat.reduceEqDiff,reduceCtorEq,reduceIte,ite_self,enterEnv,e0]
  refine calP_ro hro h9 rfl ?_
  simp -implicitDefEqProofs (disch := omega) only [↓ZD,ZP,cnd_t,cnd_f,↓reduceIte,Env.put,stepO,lenV,binV,binInt,unV,loadV,sliceV,boundOf,convV,slstrV,if_pos,if_neg,Int.reduceToNat,Nat.reducePow,V.cells,V.isCell,V.boxable,Nat.reduceEqDiff,reduceCtorEq,reduceIte,ite_self,enterEnv,e0]
  refine calP_ro rfl h12 rfl ?_
  simp -implicitDefEqProofs (disch := omega) only [↓ZD,ZP,cnd_t,cnd_f,↓reduceIte,Env.put,stepO,lenV,binV,binInt,unV,loadV,sliceV,boundOf,convV,slstrV,if_pos,if_neg,Int.reduceToNat,Nat.reducePow,V.cells,V.isCell,V.boxable,Nat.reduceEqDiff,reduceCtorEq,reduceIte,ite_self,enterEnv,e0]
  exact gives_eq rfl rfl

theorem good4 (b ea eb : Bool) (num den : List Nat) (hn : Lm num) (hd : Lm den) (hln : num.length ≤ 9223372036854775807) (hld : den.length ≤ 9223372036854775807) :
    Good Go.Proofs.Try.prog 4 [.agg [.bool b, nsl ea num, nsl eb den]] (.bool true) := by
  have h9 := good9 b ea eb num den hn hd hln hld
  have h8 := good8 b ea eb num den hn hd hln hld
  have hro : roL [V.agg [.bool b, nsl ea num, nsl eb den]] = true := by simp [roL, V.ro, nsl_ro]
  by_cases hr : rightR b num den = true
  · rw [hr] at h9
    rw [if_pos hr] at h8
    obtain ⟨e1, e2, hok⟩ := right_ok hn hd hr
    obtain ⟨L, hall⟩ := all_print hok
    have h5 := good5 (printR b (val num) (val den))
    rw [hall] at h5
    have h11 : Good Go.Proofs.Try.prog 11 [.agg [.bool b, nsl ea num, nsl eb den]] (scalarV (itemN b (val num) (val den))) := by
      have := good_le (vs := [.agg [.bool b, nsl ea (lim (val num)), nsl eb (lim (val den))]]) (good11 b _ _ hok) (le_rv b ea eb _ _)
      rwa [← e1, ← e2] at this
    have h10 := good10n b _ _ hok
    have hit : itemOf (rv b (val num) (val den)) = itemN b (val num) (val den) := rfl
    have hro5 : (V.tup [.sl false (tokC 1 (printR b (val num) (val den)) 0 (.sl false [] 0) (.sl false (itemOf (rv b (val num) (val den))) 1) ++ endTok L) 2, .int .i64 0, .int .i64 0]).ro = true := by
      simp [V.ro, roL, tokC, endTok, nilV, itemOf, rv, nf_ro]
    have hroA : (scalarV (itemN b (val num) (val den))).ro = true := by simp [scalarV, itemN, roL, V.ro, nf_ro]
    have hro10 : roL [scalarV (itemN b (val num) (val den)), scalarV (itemN b (val num) (val den))] = true := by simp [scalarV, itemN, roL, V.ro, nf_ro]
    rw [hit] at h5 hro5
    refine good_go mix s4 (Nat.le_of_ble_eq_true rfl) fun e he => ?_
    have e0 : e 0 = .agg [.bool b, nsl ea num, nsl eb den] := he 0
    clear he
    simp only [c4,b4, oQ]
    simp only [scalarV] at h11 h10 hroA hro10
    simp only [tokC,endTok,List.cons_append,List.nil_append] at h5 hro5
    generalize printR b (val num) (val den) = s at *
    generalize itemN b (val num) (val den) = it at *
    clear hall hok h9 e1 e2 hit
    have h9 : Good Go.Proofs.Try.prog 9 [.agg [.bool b, nsl ea num, nsl eb den]] (.bool true) := by
      have := good9 b ea eb num den hn hd hln hld
      rwa [hr] at this
    simp only [nsl] at *
    simp -implicitDefEqProofs (disch := omega) only [↓ZD,ZP,cnd_t,cnd_f,↓reduceIte,Env.put,stepO,lenV,binV,binInt,unV,loadV,sliceV,boundOf,convV,slstrV,if_pos,if_neg,Int.reduceToNat,Nat.reducePow,V.cells,V.isCell,V.boxable,Nat.reduceEqDiff,reduceCtorEq,reduceIte,ite_self,enterEnv,e0]
    refine calP_ro hro h8 rfl ?_
    simp -implicitDefEqProofs (disch := omega) only [↓ZD,ZP,cnd_t,cnd_f,↓reduceIte,Env.put,stepO,lenV,binV,binInt,unV,loadV,sliceV,boundOf,convV,slstrV,if_pos,if_neg,Int.reduceToNat,Nat.reducePow,V.cells,V.isCell,V.boxable,Nat.reduceEqDiff,reduceCtorEq,reduceIte,ite_self,enterEnv,e0]
    refine calP_ro rfl h5 hro5 ?_
    simp -implicitDefEqProofs (disch := omega) only [↓ZD,ZP,cnd_t,cnd_f,↓reduceIte,Env.put,stepO,lenV,binV,binInt,unV,loadV,sliceV,boundOf,convV,slstrV,if_pos,if_neg,Int.reduceToNat,Nat.reducePow,V.cells,V.isCell,V.boxable,Nat.reduceEqDiff,reduceCtorEq,reduceIte,ite_self,enterEnv,e0]
    refine calP_ro hro h9 rfl ?_
    simp -implicitDefEqProofs (disch := omega) only [↓ZD,ZP,cnd_t,cnd_f,↓reduceIte,Env.put,stepO,lenV,binV,binInt,unV,loadV,sliceV,boundOf,convV,slstrV,if_pos,if_neg,Int.reduceToNat,Nat.reducePow,V.cells,V.isCell,V.boxable,Nat.reduceEqDiff,reduceCtorEq,reduceIte,ite_self,enterEnv,e0,binStr,Nat.zero_mul,List.drop_succ_cons,List.drop_zero,List.take_succ_cons,List.take_zero]
    refine calD_ro hro h11 hroA ?_
    simp -implicitDefEqProofs (disch := omega) only [↓ZD,ZP,cnd_t,cnd_f,↓reduceIte,Env.put,stepO,lenV,binV,binInt,unV,loadV,sliceV,boundOf,convV,slstrV,if_pos,if_neg,Int.reduceToNat,Nat.reducePow,V.cells,V.isCell,V.boxable,Nat.reduceEqDiff,reduceCtorEq,reduceIte,ite_self,enterEnv,e0]
    refine calP_ro hro10 h10 rfl ?_
    simp -implicitDefEqProofs (disch := omega) only [↓ZD,ZP,cnd_t,cnd_f,↓reduceIte,Env.put,stepO,lenV,binV,binInt,unV,loadV,sliceV,boundOf,convV,slstrV,if_pos,if_neg,Int.reduceToNat,Nat.reducePow,V.cells,V.isCell,V.boxable,Nat.reduceEqDiff,reduceCtorEq,reduceIte,ite_self,enterEnv,e0]
    exact gives_eq rfl rfl
  · have hr' : rightR b num den = false := by simpa using hr
    rw [hr'] at h9
    rw [if_neg hr] at h8
    have h5 := good5 []
    rw [all_nil] at h5
    have h11 := good11f b ea eb num den h9
    have h12 := good12z
    have h10 := good10z
    refine good_go mix s4 (Nat.le_of_ble_eq_true rfl) fun e he => ?_
    have e0 : e 0 = .agg [.bool b, nsl ea num, nsl eb den] := he 0
    clear he
    simp only [c4,b4, oQ]
    simp only [nsl,int0] at *
    simp -implicitDefEqProofs (disch := omega) only [↓ZD,ZP,cnd_t,cnd_f,↓reduceIte,Env.put,stepO,lenV,binV,binInt,unV,loadV,sliceV,boundOf,convV,slstrV,if_pos,if_neg,Int.reduceToNat,Nat.reducePow,V.cells,V.isCell,V.boxable,Nat.reduceEqDiff,reduceCtorEq,reduceIte,ite_self,enterEnv,e0]
    refine calP_ro hro h8 rfl ?_
    simp -implicitDefEqProofs (disch := omega) only [↓ZD,ZP,cnd_t,cnd_f,↓reduceIte,Env.put,stepO,lenV,binV,binInt,unV,loadV,sliceV,boundOf,convV,slstrV,if_pos,if_neg,Int.reduceToNat,Nat.reducePow,V.cells,V.isCell,V.boxable,Nat.reduceEqDiff,reduceCtorEq,reduceIte,ite_self,enterEnv,e0]
    refine calP_ro rfl h5 rfl ?_
    simp -implicitDefEqProofs (disch := omega) only [↓ZD,ZP,cnd_t,cnd_f,↓reduceIte,Env.put,stepO,lenV,binV,binInt,unV,loadV,sliceV,boundOf,convV,slstrV,if_pos,if_neg,Int.reduceToNat,Nat.reducePow,V.cells,V.isCell,V.boxable,Nat.reduceEqDiff,reduceCtorEq,reduceIte,ite_self,enterEnv,e0]
    refine calP_ro hro h9 rfl ?_
    simp -implicitDefEqProofs (disch := omega) only [↓ZD,ZP,cnd_t,cnd_f,↓reduceIte,Env.put,stepO,lenV,binV,binInt,unV,loadV,sliceV,boundOf,convV,slstrV,if_pos,if_neg,Int.reduceToNat,Nat.reducePow,V.cells,V.isCell,V.boxable,Nat.reduceEqDiff,reduceCtorEq,reduceIte,ite_self,enterEnv,e0,binStr]
    refine calP_ro hro h11 rfl ?_
    simp -implicitDefEqProofs (disch := omega) only [↓ZD,ZP,cnd_t,cnd_f,↓reduceIte,Env.put,stepO,lenV,binV,binInt,unV,loadV,sliceV,boundOf,convV,slstrV,if_pos,if_neg,Int.reduceToNat,Nat.reducePow,V.cells,V.isCell,V.boxable,Nat.reduceEqDiff,reduceCtorEq,reduceIte,ite_self,enterEnv,e0]
    refine calP_ro rfl h12 rfl ?_
    simp -implicitDefEqProofs (disch := omega) only [↓ZD,ZP,cnd_t,cnd_f,↓reduceIte,Env.put,stepO,lenV,binV,binInt,unV,loadV,sliceV,boundOf,convV,slstrV,if_pos,if_neg,Int.reduceToNat,Nat.reducePow,V.cells,V.isCell,V.boxable,Nat.reduceEqDiff,reduceCtorEq,reduceIte,ite_self,enterEnv,e0]
    refine calP_ro rfl h10 rfl ?_
    simp -implicitDefEqProofs (disch := omega) only [↓ZD,ZP,cnd_t,cnd_f,↓reduceIte,Env.put,stepO,lenV,binV,binInt,unV,loadV,sliceV,boundOf,convV,slstrV,if_pos,if_neg,Int.reduceToNat,Nat.reducePow,V.cells,V.isCell,V.boxable,Nat.reduceEqDiff,reduceCtorEq,reduceIte,ite_self,enterEnv,e0]
    exact gives_eq rfl rfl
end Fe
