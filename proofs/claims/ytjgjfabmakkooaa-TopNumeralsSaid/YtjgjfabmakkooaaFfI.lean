/-
  Contracts: tokens. No condition.
-/
import Derived.Test.YtjgjfabmakkooaaFfG
set_option linter.unusedSimpArgs false
set_option linter.unusedVariables false
open Go Go.Proofs
namespace Fe
def b30 : C :=
 (.seq
 (.region false [
 oQ 2 (.box (.c (.agg [.int .u8 0, .str [], .int .i64 0, .sl true [] 0, .sl true [] 0]))),
 oQ 3 (.mov (.c (.int .i64 0)))])
 (.seq
 (.region false [
 oQ 9 (.mov (.t 0)),
 oQ 10 (.nilck (.t 9)),
 oQ 11 (.faddr 1 (.t 10)),
 oQ 12 (.load false 1 (.t 11)),
 oQ 13 (.faddr 2 (.t 2)),
 ⟨none, .op (.store 1 (.t 13) (.t 12)), none⟩])
 (.seq
 (.seq
 (.region true [
 oQ 14 (.mov (.t 0)),
 oQ 15 (.nilck (.t 14)),
 oQ 16 (.faddr 0 (.t 15)),
 oQ 17 (.load false 1 (.t 16)),
 oQ 18 (.mov (.t 0)),
 oQ 19 (.nilck (.t 18)),
 oQ 20 (.faddr 1 (.t 19)),
 oQ 21 (.load false 1 (.t 20)),
 oQ 22 (.iaddr 1 (.t 17) (.t 21)),
 oQ 23 (.load false 1 (.t 22)),
 oQ 4 (.mov (.t 23))])
 (.block 0
 (.seq
 (.region false [
 oQ 26 (.mov (.t 4)),
 ⟨some 27, .call false (.c (.fn 46 [] [])) [.t 26], none⟩,
 oQ 28 (.mov (.t 27)),
 ⟨some 29, .op (.mov (.t 4)), some (28, false)⟩,
 ⟨some 30, .op (.bin 0 .eql (.t 29) (.c (.int .i32 175))), some (28, false)⟩,
 oQ 31 (.pick (.t 28) (.c (.bool true)) (.t 30)),
 oQ 25 (.mov (.t 31))])
 (.cond (.t 25)
 (.seq
 (.region false [
 oQ 32 (.faddr 0 (.t 2)),
 ⟨none, .op (.store 1 (.t 32) (.c (.int .u8 1))), none⟩])
 (.seq
 (.region false [
 oQ 33 (.mov (.t 0)),
 oQ 34 (.nilck (.t 33)),
 oQ 35 (.faddr 1 (.t 34)),
 oQ 36 (.load false 1 (.t 35)),
 oQ 37 (.bin 0 .add (.t 36) (.c (.int .i64 1))),
 oQ 38 (.nilck (.t 33)),
 oQ 39 (.faddr 1 (.t 38)),
 ⟨none, .op (.store 1 (.t 39) (.t 37)), none⟩])
 (.seq
 (.region false [
 oQ 40 (.mov (.t 0)),
 ⟨some 41, .call false (.c (.fn 28 [] [])) [.t 40, .c (.fn 47 [] [])], none⟩])
 (.seq
 (.region true [
 oQ 43 (.mov (.t 0)),
 oQ 44 (.nilck (.t 43)),
 oQ 45 (.faddr 0 (.t 44)),
 oQ 46 (.load false 1 (.t 45)),
 oQ 47 (.faddr 2 (.t 2)),
 oQ 48 (.load false 1 (.t 47)),
 oQ 49 (.mov (.t 0)),
 oQ 50 (.nilck (.t 49)),
 oQ 51 (.faddr 1 (.t 50)),
 oQ 52 (.load false 1 (.t 51)),
 oQ 53 (.slice 1 (.t 46) (some (.t 48)) (some (.t 52)) none),
 oQ 54 (.conv .runesStr (.t 53)),
 ⟨some 55, .callc (.c (.fn 48 [] [])) [.t 54], none⟩,
 oQ 42 (.mov (.t 55)),
 oQ 56 (.extract (.t 42) 0),
 oQ 57 (.extract (.t 42) 1),
 oQ 5 (.box (.c (.agg [.bool false, .sl true [] 0, .sl true [] 0]))),
 ⟨none, .op (.store 3 (.t 5) (.t 56)), none⟩,
 oQ 6 (.mov (.t 57))])
 (.seq
 (.seq
 (.region false [
 oQ 58 (.mov (.t 6)),
 oQ 59 (.bin 0 .neq (.t 58) (.c (.int .i64 0)))])
 (.cond (.t 59)
 (.seq
 (.region false [
 oQ 60 (.build [.int .u8 0, .str [], .int .i64 0, .sl true [] 0, .sl true [] 0] []),
 oQ 61 (.mov (.t 6)),
 ⟨none, .op (.store 5 (.t 2) (.t 60)), none⟩,
 oQ 3 (.mov (.t 61))])
 .ret)
 .skip))
 (.region false [
 oQ 62 (.load true 3 (.t 5)),
 ⟨some 63, .call false (.c (.fn 11 [] [])) [.t 62], none⟩,
 oQ 64 (.faddr 3 (.t 2)),
 ⟨none, .op (.store 2 (.t 64) (.t 63)), none⟩]))))))
 (.seq
 (.region false [
 oQ 66 (.mov (.t 4)),
 oQ 67 (.bin 0 .eql (.t 66) (.c (.int .i32 39))),
 oQ 65 (.mov (.t 67))])
 (.cond (.t 65)
 (.seq
 (.region false [
 oQ 68 (.faddr 0 (.t 2)),
 ⟨none, .op (.store 1 (.t 68) (.c (.int .u8 2))), none⟩])
 (.seq
 (.region false [
 oQ 70 (.mov (.t 0)),
 ⟨some 71, .call false (.c (.fn 49 [] [])) [.t 70], none⟩,
 oQ 69 (.mov (.t 71)),
 oQ 72 (.extract (.t 69) 0),
 oQ 73 (.extract (.t 69) 1),
 oQ 7 (.mov (.t 72)),
 oQ 8 (.mov (.t 73))])
 (.seq
 (.seq
 (.region false [
 oQ 74 (.mov (.t 8)),
 oQ 75 (.bin 0 .neq (.t 74) (.c (.int .i64 0)))])
 (.cond (.t 75)
 (.seq
 (.region false [
 oQ 76 (.build [.int .u8 0, .str [], .int .i64 0, .sl true [] 0, .sl true [] 0] []),
 oQ 77 (.mov (.t 8)),
 ⟨none, .op (.store 5 (.t 2) (.t 76)), none⟩,
 oQ 3 (.mov (.t 77))])
 .ret)
 .skip))
 (.seq
 (.region false [
 oQ 78 (.mov (.t 7)),
 oQ 79 (.conv .runesStr (.t 78)),
 ⟨some 80, .call false (.c (.fn 50 [] [])) [.t 79], none⟩,
 oQ 81 (.faddr 3 (.t 2)),
 ⟨none, .op (.store 2 (.t 81) (.t 80)), none⟩])
 (.seq
 (.region false [
 oQ 82 (.mov (.t 7)),
 oQ 83 (.len false (.t 82)),
 oQ 84 (.bin 0 .eql (.t 83) (.c (.int .i64 1)))])
 (.cond (.t 84)
 (.region false [
 oQ 85 (.mov (.t 7)),
 oQ 86 (.iaddr 1 (.t 85) (.c (.int .i64 0))),
 oQ 87 (.load false 1 (.t 86)),
 ⟨some 88, .call false (.c (.fn 51 [] [])) [.t 87], none⟩,
 oQ 89 (.faddr 3 (.t 2)),
 ⟨none, .op (.store 2 (.t 89) (.t 88)), none⟩])
 .skip))))))
 (.seq
 (.region false [
 oQ 91 (.mov (.t 4)),
 ⟨some 92, .call false (.c (.fn 52 [] [])) [.t 91], none⟩,
 oQ 90 (.mov (.t 92))])
 (.cond (.t 90)
 (.seq
 (.region false [
 oQ 93 (.faddr 0 (.t 2)),
 ⟨none, .op (.store 1 (.t 93) (.c (.int .u8 3))), none⟩])
 (.seq
 (.region false [
 oQ 94 (.mov (.t 0)),
 ⟨some 95, .call false (.c (.fn 28 [] [])) [.t 94, .c (.fn 53 [] [])], none⟩])
 (.seq
 (.region true [
 oQ 96 (.mov (.t 0)),
 oQ 97 (.nilck (.t 96)),
 oQ 98 (.faddr 1 (.t 97)),
 oQ 99 (.load false 1 (.t 98)),
 oQ 100 (.faddr 2 (.t 2)),
 oQ 101 (.load false 1 (.t 100)),
 oQ 102 (.bin 0 .sub (.t 99) (.t 101)),
 oQ 103 (.bin 0 .gtr (.t 102) (.c (.int .i64 32)))])
 (.cond (.t 103)
 (.seq
 (.region false [
 oQ 104 (.build [.int .u8 0, .str [], .int .i64 0, .sl true [] 0, .sl true [] 0] []),
 ⟨none, .op (.store 5 (.t 2) (.t 104)), none⟩,
 oQ 3 (.mov (.c (.int .i64 27)))])
 .ret)
 .skip))))
 (.seq
 (.region false [
 oQ 106 (.mov (.t 4)),
 oQ 107 (.bin 0 .eql (.t 106) (.c (.int .i32 9109))),
 oQ 105 (.mov (.t 107))])
 (.cond (.t 105)
 (.seq
 (.region false [
 oQ 108 (.faddr 0 (.t 2)),
 ⟨none, .op (.store 1 (.t 108) (.c (.int .u8 4))), none⟩])
 (.seq
 (.region false [
 oQ 109 (.mov (.t 0)),
 oQ 110 (.nilck (.t 109)),
 oQ 111 (.faddr 1 (.t 110)),
 oQ 112 (.load false 1 (.t 111)),
 oQ 113 (.bin 0 .add (.t 112) (.c (.int .i64 1))),
 oQ 114 (.nilck (.t 109)),
 oQ 115 (.faddr 1 (.t 114)),
 ⟨none, .op (.store 1 (.t 115) (.t 113)), none⟩])
 (.region false [
 oQ 116 (.mov (.t 0)),
 ⟨some 117, .call false (.c (.fn 28 [] [])) [.t 116, .c (.fn 54 [] [])], none⟩])))
 (.seq
 (.region false [
 oQ 119 (.mov (.t 4)),
 ⟨some 120, .call false (.c (.fn 57 [] [])) [.t 119], none⟩,
 oQ 118 (.mov (.t 120))])
 (.cond (.t 118)
 (.seq
 (.region false [
 oQ 121 (.faddr 0 (.t 2)),
 ⟨none, .op (.store 1 (.t 121) (.c (.int .u8 5))), none⟩])
 (.region false [
 oQ 122 (.mov (.t 0)),
 oQ 123 (.nilck (.t 122)),
 oQ 124 (.faddr 1 (.t 123)),
 oQ 125 (.load false 1 (.t 124)),
 oQ 126 (.bin 0 .add (.t 125) (.c (.int .i64 1))),
 oQ 127 (.nilck (.t 122)),
 oQ 128 (.faddr 1 (.t 127)),
 ⟨none, .op (.store 1 (.t 128) (.t 126)), none⟩]))
 (.seq
 (.region false [
 oQ 130 (.mov (.t 4)),
 ⟨some 131, .call false (.c (.fn 58 [] [])) [.c (.str [40, 41, 91, 93, 59, 123, 125, 226, 134, 144, 226, 134, 146, 226, 139, 132, 58, 226, 136, 135, 226, 141, 186, 226, 141, 181]), .t 130], none⟩,
 oQ 129 (.mov (.t 131))])
 (.cond (.t 129)
 (.seq
 (.region false [
 oQ 132 (.faddr 0 (.t 2)),
 ⟨none, .op (.store 1 (.t 132) (.c (.int .u8 6))), none⟩])
 (.region false [
 oQ 133 (.mov (.t 0)),
 oQ 134 (.nilck (.t 133)),
 oQ 135 (.faddr 1 (.t 134)),
 oQ 136 (.load false 1 (.t 135)),
 oQ 137 (.bin 0 .add (.t 136) (.c (.int .i64 1))),
 oQ 138 (.nilck (.t 133)),
 oQ 139 (.faddr 1 (.t 138)),
 ⟨none, .op (.store 1 (.t 139) (.t 137)), none⟩]))
 (.seq
 (.region false [
 oQ 24 (.build [.int .u8 0, .str [], .int .i64 0, .sl true [] 0, .sl true [] 0] []),
 ⟨none, .op (.store 5 (.t 2) (.t 24)), none⟩,
 oQ 3 (.mov (.c (.int .i64 26)))])
 .ret)))))))))))))))
 (.seq
 (.region true [
 oQ 140 (.mov (.t 0)),
 oQ 141 (.nilck (.t 140)),
 oQ 142 (.faddr 0 (.t 141)),
 oQ 143 (.load false 1 (.t 142)),
 oQ 144 (.faddr 2 (.t 2)),
 oQ 145 (.load false 1 (.t 144)),
 oQ 146 (.mov (.t 0)),
 oQ 147 (.nilck (.t 146)),
 oQ 148 (.faddr 1 (.t 147)),
 oQ 149 (.load false 1 (.t 148)),
 oQ 150 (.slice 1 (.t 143) (some (.t 145)) (some (.t 149)) none),
 oQ 151 (.conv .runesStr (.t 150)),
 oQ 152 (.faddr 1 (.t 2)),
 ⟨none, .op (.store 1 (.t 152) (.t 151)), none⟩])
 (.seq
 (.region false [
 oQ 153 (.load true 5 (.t 2)),
 ⟨none, .op (.store 5 (.t 2) (.t 153)), none⟩,
 oQ 3 (.mov (.c (.int .i64 0)))])
 .ret)))))
def c30 : CF := ⟨154, 1, [.load true 5 (.t 2), .mov (.t 3)], b30⟩
theorem s30 : stripF Go.Proofs.Try.prog 30 = some c30 := by kernel_rfl

theorem calC_ro {P : Program} {e : Env} {H : Heap} {S : List Fr} {K : Cont} {lim' : Option Nat} {os : List Op} {d : Option Nat} {f : FuncId} {ar : List V} {r : V} (hro : roL ar = true) (hg : Good P f ar r) (hr : r.ro = true) (h : ops P lim' os (e.put d r) H S K) : calC P (.fn f [] []) ar d lim' os e H S K := by
  have ha : [] ++ ar ++ [] = ar := by simp
  refine ⟨r, ?_, hr, ?_, h⟩
  · rw [ha]; exact hro
  · rw [ha]; exact hg

/-- A text of characters. -/
def encs (l : List Nat) : List UInt8 := (l.map fun (c : Nat) => encL (c : Int)).flatten
theorem runesOf_rl : ∀ l : List Nat, runesOf (rl l) = some (encs l)
  | [] => rfl
  | c :: l => by
    have := runesOf_rl l
    simp only [rl,List.map_cons,runesOf] at this ⊢
    rw [this]
    rfl
theorem encs_len : ∀ l : List Nat, (encs l).length ≤ 4 * l.length
  | [] => by simp [encs]
  | c :: l => by
    have h1 := encs_len l
    have h2 := encL_len (c : Int)
    simp only [encs,List.map_cons,List.flatten_cons,List.length_append,List.length_cons] at *
    omega

/-- A token: its kind, how many characters it has, its array; or an error. -/
inductive TR where
  | ok (kind n : Nat) (a1 a2 : V)
  | err (e : Nat)

def itemOf (v : V) : List V := match v with
  | .agg [b, x, y] => [.int .u8 1, b, x, y, .int .i32 0, .sl false [] 0]
  | _ => []
def nilV : V := .sl true [] 0

def numTok (l : List Nat) : TR :=
  if (ratP (encs l)).2 = 0 then .ok 1 l.length (.sl false [] 0) (.sl false (itemOf (ratP (encs l)).1) 1) else .err (ratP (encs l)).2
def textTok (r : List Nat) : TR := match textS r with
  | none => .err 26
  | some (out, m) => if out.length = 1 then .ok 2 (1 + m) (.sl false [] 0) (.sl false (itemC (out.headD 0)) 1)
    else .ok 2 (1 + m) (.sl false [.int .i64 ((rn (encs out)).length : Nat)] 1) (.sl false (textItems (rn (encs out))) (if rn (encs out) = [] then 1 else (rn (encs out)).length))
def nameTok (l : List Nat) : TR := if 32 < l.length then .err 27 else .ok 3 l.length nilV nilV

def tokenS : List Nat → TR
  | [] => .err 0
  | c :: r =>
    if isD c = true ∨ c = 175 then numTok (c :: r.takeWhile numC)
    else if c = 39 then textTok r
    else if isL c = true then nameTok (c :: r.takeWhile nameC)
    else if c = 9109 then .ok 4 (1 + (r.takeWhile quadC).length) nilV nilV
    else if isP c = true then .ok 5 1 nilV nilV
    else if isS c = true then .ok 6 1 nilV nilV
    else .err 26

theorem take_while_len {p : Nat → Bool} (l : List Nat) : l.take (l.takeWhile p).length = l.takeWhile p := (List.prefix_iff_eq_take.1 (List.takeWhile_prefix p)).symm

theorem slice_rl (rs : List Nat) (i n : Nat) : ((rl rs).drop i).take n = rl ((rs.drop i).take n) := by simp [rl, List.map_take, List.map_drop]

theorem makeR_ok {below : Bool} {n d : Nat} {v : V} (h : makeR below n d = (v, 0)) : ∃ b x y, v = rv b x y ∧ NumOK b x y := by
  unfold makeR at h
  split at h
  · cases h
  · rename_i hd
    unfold lowR at h
    split at h
    · cases h
    · rename_i hg
      split at h
      · cases h
      · rename_i hl
        cases h
        refine ⟨_, _, _, rfl, by omega, by omega, ?_, ?_, ?_⟩
        · have := Nat.div_mul_cancel (Nat.gcd_dvd_right n d)
          intro h0
          rw [h0] at this
          omega
        · intro h0
          rw [h0, lim_zero]
          simp
        · rw [Nat.gcd_div (Nat.gcd_dvd_left n d) (Nat.gcd_dvd_right n d), Nat.div_self (Nat.pos_of_ne_zero hg)]

theorem ratP_ok {s : List UInt8} {v : V} (h : ratP s = (v, 0)) : ∃ b x y, v = rv b x y ∧ NumOK b x y := by
  unfold ratP at h
  split at h
  · cases h
  split at h
  · cases h
  split at h
  · exact makeR_ok h
  split at h
  · exact makeR_ok h
  · exact makeR_ok h

theorem ratP_agg (s : List UInt8) : ∃ b x y m, ratP s = (rv b x y, m) := by
  unfold ratP
  split
  · exact ⟨_, _, _, _, rfl⟩
  split
  · exact ⟨_, _, _, _, rfl⟩
  split
  · exact makeR_agg _ _ _
  split
  · exact makeR_agg _ _ _
  · exact makeR_agg _ _ _

theorem textS_bound : ∀ (n : Nat) (l : List Nat), l.length ≤ n → ∀ out m, textS l = some (out, m) → out.length ≤ m ∧ m ≤ l.length ∧ ∀ c ∈ out, c ∈ l
  | 0, l, hl, out, m, h => by
    obtain rfl := List.length_eq_zero_iff.1 (Nat.le_zero.1 hl)
    cases h
  | n + 1, [], hl, out, m, h => by cases h
  | n + 1, c :: r, hl, out, m, h => by
    simp only [List.length_cons] at hl
    by_cases hc : c = 39
    · subst hc
      cases r with
      | nil =>
        rw [textS_end rfl (by rintro d r' h; cases h)] at h
        cases h
        simp
      | cons d r =>
        by_cases hd : d = 39
        · subst hd
          rw [textS_two] at h
          simp only [Option.map_eq_some_iff] at h
          obtain ⟨⟨o, q⟩, h1, h2⟩ := h
          cases h2
          obtain ⟨a1, a2, a3⟩ := textS_bound n r (by simp at hl; omega) o q h1
          refine ⟨by simp; omega, by simp; omega, fun x hx => ?_⟩
          rcases List.mem_cons.1 hx with rfl | hx
          · simp
          · exact List.mem_cons_of_mem _ (List.mem_cons_of_mem _ (a3 x hx))
        · rw [textS_end rfl (by rintro d' r' h; cases h; exact hd)] at h
          cases h
          simp
    · rw [textS_other hc] at h
      simp only [Option.map_eq_some_iff] at h
      obtain ⟨⟨o, q⟩, h1, h2⟩ := h
      cases h2
      obtain ⟨a1, a2, a3⟩ := textS_bound n r (by omega) o q h1
      refine ⟨by simp; omega, by simp; omega, fun x hx => ?_⟩
      rcases List.mem_cons.1 hx with rfl | hx
      · simp
      · exact List.mem_cons_of_mem _ (a3 x hx)

/-- What a token hands back, and what it leaves. -/
def TokPost (H : Heap) (k i : Nat) (rs : List Nat) (K : V → Heap → Prop) : Prop := match tokenS (rs.drop i) with
  | .ok kind n a1 a2 => ∀ T, K (.tup [.agg [.int .u8 (kind : Nat), .str (encs ((rs.drop i).take n)), .int .i64 (i : Nat), a1, a2], .int .i64 0]) (H.set k (reader rs (i + n)) ++ T)
  | .err e => ∀ j T, K (.tup [.agg [.int .u8 0, .str [], .int .i64 0, nilV, nilV], .int .i64 (e : Nat)]) (H.set k (reader rs j) ++ T)

theorem call30 (H : Heap) (k i : Nat) (rs : List Nat) (K : V → Heap → Prop) (hk : H[k]? = some (reader rs i)) (hi : i < rs.length) (hl : rs.length ≤ 1024) (hch : ∀ c ∈ rs, charOK c)
    (hK : TokPost H k i rs K) : Call2 Go.Proofs.Try.prog 30 [.cell k 0 0] H K := by
  have hkl := getElem?_lt hk
  have hgk : ∀ (r : HObj) (T : Heap), (H.set k r ++ T)[k]? = some r := by
    intro r T
    rw [List.getElem?_append_left (by rw [List.length_set]; exact hkl)]
    exact get_set_self hkl
  have hsk : ∀ (r x : HObj) (T : Heap), (H.set k r ++ T).set k x = H.set k x ++ T := by
    intro r x T
    rw [List.set_append_left _ _ (by rw [List.length_set]; exact hkl), List.set_set]
  have hl2 : ∀ (r : HObj) (T : Heap), (H.set k r ++ T).length = H.length + T.length := by intro r T; simp
  have hgb : ∀ (r x : HObj) (T : Heap), (H.set k r ++ x :: T)[H.length]? = some x := by
    intro r x T
    rw [List.getElem?_append_right (by simp)]; simp
  have hgb1 : ∀ (r x y : HObj) (T : Heap), (H.set k r ++ x :: y :: T)[H.length + 1]? = some y := by
    intro r x y T
    rw [List.getElem?_append_right (by simp)]; simp
  have hsb : ∀ (r x y : HObj) (T : Heap), (H.set k r ++ x :: T).set H.length y = H.set k r ++ y :: T := by
    intro r x y T
    rw [List.set_append_right _ _ (by simp)]; simp
  have hsb1 : ∀ (r x y z : HObj) (T : Heap), (H.set k r ++ x :: y :: T).set (H.length + 1) z = H.set k r ++ x :: z :: T := by
    intro r x y z T
    rw [List.set_append_right _ _ (by simp)]; simp
  have hH0 : H = H.set k (reader rs i) ++ [] := by rw [List.append_nil, set_same hk]
  refine call2_go mix s30 (Nat.le_of_ble_eq_true rfl) fun e he => ?_
  have e0 : e 0 = .cell k 0 0 := he 0
  clear he
  simp only [c30,b30, oQ]
  rw [hH0]
  clear hH0
  have fin1 : ∀ n : Nat, (((i + n : Nat) : Int) - (i : Int)).toNat = n := by intro n; omega
  have hat : rs[i]? = some rs[i] := List.getElem?_eq_getElem hi
  have hat2 := rl_get hat
  have hcr : charOK rs[i] := hch _ (List.getElem_mem hi)
  generalize rs[i] = c at *
  have hdr := drop_at hat
  have htl : ∀ n, i + n ≤ rs.length → (rl ((rs.drop i).take n)).length = n := by intro n h; rw [rl_len, List.length_take, List.length_drop]; omega
  rw [TokPost, hdr, tokenS] at hK
  simp -implicitDefEqProofs (disch := omega) only [↓ZD,ZP,cnd_t,cnd_f,↓reduceIte,Env.put,stepO,lenV,binV,binInt,unV,loadV,sliceV,boundOf,convV,slstrV,if_pos,if_neg,Int.reduceToNat,Nat.reducePow,V.cells,V.isCell,V.boxable,Nat.reduceEqDiff,reduceCtorEq,reduceIte,ite_self,enterEnv,e0,hgk,hsk,hl2,hgb,hgb1,hsb,hsb1,List.append_assoc,reader,hat2,fillL,evParts,splice,List.take_zero,List.take_succ_cons,List.drop_succ_cons,List.drop_zero,List.drop_nil,convV,readSl,rl_len,slice_rl,runesOf_rl,htl]
  refine calP_ro rfl (good46 c) rfl ?_
  by_cases hnum : isD c = true ∨ c = 175
  · rw [if_pos hnum] at hK
    have hsp : spanTo numC rs (i + 1) = i + (c :: (rs.drop (i + 1)).takeWhile numC).length := by rw [List.length_cons]; unfold spanTo; omega
    have hle := (spanTo_le (p := numC) (rs := rs) (i := i + 1) (by omega)).2
    have htk : (c :: rs.drop (i + 1)).take (c :: (rs.drop (i + 1)).takeWhile numC).length = c :: (rs.drop (i + 1)).takeWhile numC := by
      rw [List.length_cons, List.take_succ_cons, take_while_len]
    rw [hsp] at hle
    rw [numTok] at hK
    have hlen : (encs (c :: (rs.drop (i + 1)).takeWhile numC)).length ≤ 100000 := by
      have := encs_len (c :: (rs.drop (i + 1)).takeWhile numC)
      omega
    have h48 := good48 _ hlen
    generalize hw : c :: (rs.drop (i + 1)).takeWhile numC = w at *
    obtain ⟨b, x, y, m, hr⟩ := ratP_agg (encs w)
    rw [hr] at hK h48
    rw [pairV, rv] at h48
    cases hD : isD c with
    | true =>
      simp -implicitDefEqProofs (disch := omega) only [↓ZD,ZP,cnd_t,cnd_f,↓reduceIte,Env.put,stepO,lenV,binV,binInt,unV,loadV,sliceV,boundOf,convV,slstrV,if_pos,if_neg,Int.reduceToNat,Nat.reducePow,V.cells,V.isCell,V.boxable,Nat.reduceEqDiff,reduceCtorEq,reduceIte,ite_self,enterEnv,e0,hgk,hsk,hl2,hgb,hgb1,hsb,hsb1,List.append_assoc,reader,hat2,fillL,evParts,splice,List.take_zero,List.take_succ_cons,List.drop_succ_cons,List.drop_zero,List.drop_nil,convV,readSl,rl_len,slice_rl,runesOf_rl,htl,nf,nsl]
      refine calP_heap (call28 _ k (i + 1) 47 numC rs _ (hgk _ _) (by omega) (by omega) good47 ?_)
      rw [hsp]
      simp -implicitDefEqProofs (disch := omega) only [↓ZD,ZP,cnd_t,cnd_f,↓reduceIte,Env.put,stepO,lenV,binV,binInt,unV,loadV,sliceV,boundOf,convV,slstrV,if_pos,if_neg,Int.reduceToNat,Nat.reducePow,V.cells,V.isCell,V.boxable,Nat.reduceEqDiff,reduceCtorEq,reduceIte,ite_self,enterEnv,e0,hgk,hsk,hl2,hgb,hgb1,hsb,hsb1,List.append_assoc,reader,hat2,fillL,evParts,splice,List.take_zero,List.take_succ_cons,List.drop_succ_cons,List.drop_zero,List.drop_nil,convV,readSl,rl_len,slice_rl,runesOf_rl,htl,nf,nsl]
      rw [fin1, hdr, htk]
      refine calC_ro rfl h48 (by simp [roL, V.ro, nl_ro, nsl_ro, nf_ro, nls_ro]) ?_
      simp -implicitDefEqProofs (disch := omega) only [↓ZD,ZP,cnd_t,cnd_f,↓reduceIte,Env.put,stepO,lenV,binV,binInt,unV,loadV,sliceV,boundOf,convV,slstrV,if_pos,if_neg,Int.reduceToNat,Nat.reducePow,V.cells,V.isCell,V.boxable,Nat.reduceEqDiff,reduceCtorEq,reduceIte,ite_self,enterEnv,e0,hgk,hsk,hl2,hgb,hgb1,hsb,hsb1,List.append_assoc,reader,hat2,fillL,evParts,splice,List.take_zero,List.take_succ_cons,List.drop_succ_cons,List.drop_zero,List.drop_nil,convV,readSl,rl_len,slice_rl,runesOf_rl,htl,nf,nsl]
      by_cases hm : m = 0
      · subst hm
        rw [if_pos rfl] at hK
        obtain ⟨b', x', y', hbv, hnok⟩ := ratP_ok hr
        have h11 := good11 b' x' y' hnok
        rw [← hbv, rv, scalarV] at h11
        have hit : itemN b' x' y' = itemOf (rv b x y) := by rw [hbv]; rfl
        have hro : (V.agg [.sl false [] 0, .sl false (itemN b' x' y') 1]).ro = true := by simp [V.ro, roL, itemN, nf_ro]
        simp -implicitDefEqProofs (disch := omega) only [↓ZD,ZP,cnd_t,cnd_f,↓reduceIte,Env.put,stepO,lenV,binV,binInt,unV,loadV,sliceV,boundOf,convV,slstrV,if_pos,if_neg,Int.reduceToNat,Nat.reducePow,V.cells,V.isCell,V.boxable,Nat.reduceEqDiff,reduceCtorEq,reduceIte,ite_self,enterEnv,e0,hgk,hsk,hl2,hgb,hgb1,hsb,hsb1,List.append_assoc,reader,hat2,fillL,evParts,splice,List.take_zero,List.take_succ_cons,List.drop_succ_cons,List.drop_zero,List.drop_nil,convV,readSl,rl_len,slice_rl,runesOf_rl,htl,nf,nsl]
        refine calP_ro (by simp [roL, V.ro, nl_ro, nsl_ro, nf_ro, nls_ro]) h11 hro ?_
        simp -implicitDefEqProofs (disch := omega) only [↓ZD,ZP,cnd_t,cnd_f,↓reduceIte,Env.put,stepO,lenV,binV,binInt,unV,loadV,sliceV,boundOf,convV,slstrV,if_pos,if_neg,Int.reduceToNat,Nat.reducePow,V.cells,V.isCell,V.boxable,Nat.reduceEqDiff,reduceCtorEq,reduceIte,ite_self,enterEnv,e0,hgk,hsk,hl2,hgb,hgb1,hsb,hsb1,List.append_assoc,reader,hat2,fillL,evParts,splice,List.take_zero,List.take_succ_cons,List.drop_succ_cons,List.drop_zero,List.drop_nil,convV,readSl,rl_len,slice_rl,runesOf_rl,htl,nf,nsl]
        rw [fin1, hdr, htk, hit]
        have := hK [.cells 0 0 true [.int .u8 1, .str (encs w), .int .i64 (i : Nat), .sl false [] 0, .sl false (itemOf (rv b x y)) 1], .cells 0 0 true [.bool b, nf (lim x), nf (lim y)]]
        rw [htk] at this
        exact this
      · rw [if_neg hm] at hK
        simp -implicitDefEqProofs (disch := omega) only [↓ZD,ZP,cnd_t,cnd_f,↓reduceIte,Env.put,stepO,lenV,binV,binInt,unV,loadV,sliceV,boundOf,convV,slstrV,if_pos,if_neg,Int.reduceToNat,Nat.reducePow,V.cells,V.isCell,V.boxable,Nat.reduceEqDiff,reduceCtorEq,reduceIte,ite_self,enterEnv,e0,hgk,hsk,hl2,hgb,hgb1,hsb,hsb1,List.append_assoc,reader,hat2,fillL,evParts,splice,List.take_zero,List.take_succ_cons,List.drop_succ_cons,List.drop_zero,List.drop_nil,convV,readSl,rl_len,slice_rl,runesOf_rl,htl,nf,nsl]
        exact hK _ _
    | false =>
      have h175 : c = 175 := by
        rcases hnum with h | h
        · rw [hD] at h; cases h
        · exact h
      simp -implicitDefEqProofs (disch := omega) only [↓ZD,ZP,cnd_t,cnd_f,↓reduceIte,Env.put,stepO,lenV,binV,binInt,unV,loadV,sliceV,boundOf,convV,slstrV,if_pos,if_neg,Int.reduceToNat,Nat.reducePow,V.cells,V.isCell,V.boxable,Nat.reduceEqDiff,reduceCtorEq,reduceIte,ite_self,enterEnv,e0,hgk,hsk,hl2,hgb,hgb1,hsb,hsb1,List.append_assoc,reader,hat2,fillL,evParts,splice,List.take_zero,List.take_succ_cons,List.drop_succ_cons,List.drop_zero,List.drop_nil,convV,readSl,rl_len,slice_rl,runesOf_rl,htl,nf,nsl]
      refine calP_heap (call28 _ k (i + 1) 47 numC rs _ (hgk _ _) (by omega) (by omega) good47 ?_)
      rw [hsp]
      simp -implicitDefEqProofs (disch := omega) only [↓ZD,ZP,cnd_t,cnd_f,↓reduceIte,Env.put,stepO,lenV,binV,binInt,unV,loadV,sliceV,boundOf,convV,slstrV,if_pos,if_neg,Int.reduceToNat,Nat.reducePow,V.cells,V.isCell,V.boxable,Nat.reduceEqDiff,reduceCtorEq,reduceIte,ite_self,enterEnv,e0,hgk,hsk,hl2,hgb,hgb1,hsb,hsb1,List.append_assoc,reader,hat2,fillL,evParts,splice,List.take_zero,List.take_succ_cons,List.drop_succ_cons,List.drop_zero,List.drop_nil,convV,readSl,rl_len,slice_rl,runesOf_rl,htl,nf,nsl]
      rw [fin1, hdr, htk]
      refine calC_ro rfl h48 (by simp [roL, V.ro, nl_ro, nsl_ro, nf_ro, nls_ro]) ?_
      simp -implicitDefEqProofs (disch := omega) only [↓ZD,ZP,cnd_t,cnd_f,↓reduceIte,Env.put,stepO,lenV,binV,binInt,unV,loadV,sliceV,boundOf,convV,slstrV,if_pos,if_neg,Int.reduceToNat,Nat.reducePow,V.cells,V.isCell,V.boxable,Nat.reduceEqDiff,reduceCtorEq,reduceIte,ite_self,enterEnv,e0,hgk,hsk,hl2,hgb,hgb1,hsb,hsb1,List.append_assoc,reader,hat2,fillL,evParts,splice,List.take_zero,List.take_succ_cons,List.drop_succ_cons,List.drop_zero,List.drop_nil,convV,readSl,rl_len,slice_rl,runesOf_rl,htl,nf,nsl]
      by_cases hm : m = 0
      · subst hm
        rw [if_pos rfl] at hK
        obtain ⟨b', x', y', hbv, hnok⟩ := ratP_ok hr
        have h11 := good11 b' x' y' hnok
        rw [← hbv, rv, scalarV] at h11
        have hit : itemN b' x' y' = itemOf (rv b x y) := by rw [hbv]; rfl
        have hro : (V.agg [.sl false [] 0, .sl false (itemN b' x' y') 1]).ro = true := by simp [V.ro, roL, itemN, nf_ro]
        simp -implicitDefEqProofs (disch := omega) only [↓ZD,ZP,cnd_t,cnd_f,↓reduceIte,Env.put,stepO,lenV,binV,binInt,unV,loadV,sliceV,boundOf,convV,slstrV,if_pos,if_neg,Int.reduceToNat,Nat.reducePow,V.cells,V.isCell,V.boxable,Nat.reduceEqDiff,reduceCtorEq,reduceIte,ite_self,enterEnv,e0,hgk,hsk,hl2,hgb,hgb1,hsb,hsb1,List.append_assoc,reader,hat2,fillL,evParts,splice,List.take_zero,List.take_succ_cons,List.drop_succ_cons,List.drop_zero,List.drop_nil,convV,readSl,rl_len,slice_rl,runesOf_rl,htl,nf,nsl]
        refine calP_ro (by simp [roL, V.ro, nl_ro, nsl_ro, nf_ro, nls_ro]) h11 hro ?_
        simp -implicitDefEqProofs (disch := omega) only [↓ZD,ZP,cnd_t,cnd_f,↓reduceIte,Env.put,stepO,lenV,binV,binInt,unV,loadV,sliceV,boundOf,convV,slstrV,if_pos,if_neg,Int.reduceToNat,Nat.reducePow,V.cells,V.isCell,V.boxable,Nat.reduceEqDiff,reduceCtorEq,reduceIte,ite_self,enterEnv,e0,hgk,hsk,hl2,hgb,hgb1,hsb,hsb1,List.append_assoc,reader,hat2,fillL,evParts,splice,List.take_zero,List.take_succ_cons,List.drop_succ_cons,List.drop_zero,List.drop_nil,convV,readSl,rl_len,slice_rl,runesOf_rl,htl,nf,nsl]
        rw [fin1, hdr, htk, hit]
        have := hK [.cells 0 0 true [.int .u8 1, .str (encs w), .int .i64 (i : Nat), .sl false [] 0, .sl false (itemOf (rv b x y)) 1], .cells 0 0 true [.bool b, nf (lim x), nf (lim y)]]
        rw [htk] at this
        exact this
      · rw [if_neg hm] at hK
        simp -implicitDefEqProofs (disch := omega) only [↓ZD,ZP,cnd_t,cnd_f,↓reduceIte,Env.put,stepO,lenV,binV,binInt,unV,loadV,sliceV,boundOf,convV,slstrV,if_pos,if_neg,Int.reduceToNat,Nat.reducePow,V.cells,V.isCell,V.boxable,Nat.reduceEqDiff,reduceCtorEq,reduceIte,ite_self,enterEnv,e0,hgk,hsk,hl2,hgb,hgb1,hsb,hsb1,List.append_assoc,reader,hat2,fillL,evParts,splice,List.take_zero,List.take_succ_cons,List.drop_succ_cons,List.drop_zero,List.drop_nil,convV,readSl,rl_len,slice_rl,runesOf_rl,htl,nf,nsl]
        exact hK _ _
  rw [if_neg hnum] at hK
  have hnd : isD c = false := by
    cases h : isD c with
    | false => rfl
    | true => exact absurd (.inl h) hnum
  have hn175 : c ≠ 175 := fun h => hnum (.inr h)
  rw [hnd]
  by_cases htx : c = 39
  · rw [if_pos htx] at hK
    simp -implicitDefEqProofs (disch := omega) only [↓ZD,ZP,cnd_t,cnd_f,↓reduceIte,Env.put,stepO,lenV,binV,binInt,unV,loadV,sliceV,boundOf,convV,slstrV,if_pos,if_neg,Int.reduceToNat,Nat.reducePow,V.cells,V.isCell,V.boxable,Nat.reduceEqDiff,reduceCtorEq,reduceIte,ite_self,enterEnv,e0,hgk,hsk,hl2,hgb,hgb1,hsb,hsb1,List.append_assoc,reader,hat2,fillL,evParts,splice,List.take_zero,List.take_succ_cons,List.drop_succ_cons,List.drop_zero,List.drop_nil,convV,readSl,rl_len,slice_rl,runesOf_rl,htl]
    have hte0 : textTok (rs.drop (i + 1)) = textTok (rs.drop (i + 1)) := rfl
    refine calP_heap (call49 _ k i rs _ (hgk _ _) hi (by omega) ?_ ?_)
    · intro out m v T hte hT
      obtain ⟨hb1, hb2, hb3⟩ := textS_bound _ _ (Nat.le_refl _) out m hte
      rw [List.length_drop] at hb2
      have hel := encs_len out
      have hrl := rn_len (encs out)
      have h50 := good50 (encs out) (by omega) (by omega)
      have hro := textV_ro (rn (encs out))
      rw [textTok, hte] at hK
      simp only at hK
      rw [textV] at h50 hro
      have hin : i + 1 + m = i + (1 + m) := by omega
      rw [hl2] at hT
      rw [hin]
      have hir : i + (1 + m) ≤ rs.length := by omega
      generalize 1 + m = n at *
      rcases hT with ⟨rfl, rfl, rfl⟩ | ⟨g, rfl, rfl⟩
      · rw [if_neg (by simp)] at hK
        simp -implicitDefEqProofs (disch := omega) only [↓ZD,ZP,cnd_t,cnd_f,↓reduceIte,Env.put,stepO,lenV,binV,binInt,unV,loadV,sliceV,boundOf,convV,slstrV,if_pos,if_neg,Int.reduceToNat,Nat.reducePow,V.cells,V.isCell,V.boxable,Nat.reduceEqDiff,reduceCtorEq,reduceIte,ite_self,enterEnv,e0,hgk,hsk,hl2,hgb,hgb1,hsb,hsb1,List.append_assoc,reader,hat2,fillL,evParts,splice,List.take_zero,List.take_succ_cons,List.drop_succ_cons,List.drop_zero,List.drop_nil,convV,readSl,rl_len,slice_rl,runesOf_rl,htl,List.append_nil]
        refine calP_ro rfl h50 hro ?_
        simp -implicitDefEqProofs (disch := omega) only [↓ZD,ZP,cnd_t,cnd_f,↓reduceIte,Env.put,stepO,lenV,binV,binInt,unV,loadV,sliceV,boundOf,convV,slstrV,if_pos,if_neg,Int.reduceToNat,Nat.reducePow,V.cells,V.isCell,V.boxable,Nat.reduceEqDiff,reduceCtorEq,reduceIte,ite_self,enterEnv,e0,hgk,hsk,hl2,hgb,hgb1,hsb,hsb1,List.append_assoc,reader,hat2,fillL,evParts,splice,List.take_zero,List.take_succ_cons,List.drop_succ_cons,List.drop_zero,List.drop_nil,convV,readSl,rl_len,slice_rl,runesOf_rl,htl,List.append_nil]
        rw [fin1, hdr]
        exact hK _
      · have hol := rl_len out
        have htake : (rl out).take out.length = rl out := by rw [← hol, List.take_length]
        simp -implicitDefEqProofs (disch := omega) only [↓ZD,ZP,cnd_t,cnd_f,↓reduceIte,Env.put,stepO,lenV,binV,binInt,unV,loadV,sliceV,boundOf,convV,slstrV,if_pos,if_neg,Int.reduceToNat,Nat.reducePow,V.cells,V.isCell,V.boxable,Nat.reduceEqDiff,reduceCtorEq,reduceIte,ite_self,enterEnv,e0,hgk,hsk,hl2,hgb,hgb1,hsb,hsb1,List.append_assoc,reader,hat2,fillL,evParts,splice,List.take_zero,List.take_succ_cons,List.drop_succ_cons,List.drop_zero,List.drop_nil,convV,readSl,rl_len,slice_rl,runesOf_rl,htl,List.append_nil,htake]
        refine calP_ro rfl h50 hro ?_
        by_cases h1 : out.length = 1
        · rw [if_pos h1] at hK
          obtain ⟨x, rfl⟩ := List.length_eq_one_iff.1 h1
          have hx : charOK x := hch x (List.mem_of_mem_drop (hb3 x (by simp)))
          have h51 := good51 x hx
          rw [scalarV] at h51
          have hrl0 : (rl [x])[0]? = some (.int .i32 (x : Nat)) := rfl
          simp -implicitDefEqProofs (disch := omega) only [↓ZD,ZP,cnd_t,cnd_f,↓reduceIte,Env.put,stepO,lenV,binV,binInt,unV,loadV,sliceV,boundOf,convV,slstrV,if_pos,if_neg,Int.reduceToNat,Nat.reducePow,V.cells,V.isCell,V.boxable,Nat.reduceEqDiff,reduceCtorEq,reduceIte,ite_self,enterEnv,e0,hgk,hsk,hl2,hgb,hgb1,hsb,hsb1,List.append_assoc,reader,hat2,fillL,evParts,splice,List.take_zero,List.take_succ_cons,List.drop_succ_cons,List.drop_zero,List.drop_nil,convV,readSl,rl_len,slice_rl,runesOf_rl,htl,List.append_nil,htake,hrl0]
          refine calP_ro rfl h51 rfl ?_
          simp -implicitDefEqProofs (disch := omega) only [↓ZD,ZP,cnd_t,cnd_f,↓reduceIte,Env.put,stepO,lenV,binV,binInt,unV,loadV,sliceV,boundOf,convV,slstrV,if_pos,if_neg,Int.reduceToNat,Nat.reducePow,V.cells,V.isCell,V.boxable,Nat.reduceEqDiff,reduceCtorEq,reduceIte,ite_self,enterEnv,e0,hgk,hsk,hl2,hgb,hgb1,hsb,hsb1,List.append_assoc,reader,hat2,fillL,evParts,splice,List.take_zero,List.take_succ_cons,List.drop_succ_cons,List.drop_zero,List.drop_nil,convV,readSl,rl_len,slice_rl,runesOf_rl,htl,List.append_nil]
          rw [fin1, hdr]
          exact hK _
        · rw [if_neg h1] at hK
          simp -implicitDefEqProofs (disch := omega) only [↓ZD,ZP,cnd_t,cnd_f,↓reduceIte,Env.put,stepO,lenV,binV,binInt,unV,loadV,sliceV,boundOf,convV,slstrV,if_pos,if_neg,Int.reduceToNat,Nat.reducePow,V.cells,V.isCell,V.boxable,Nat.reduceEqDiff,reduceCtorEq,reduceIte,ite_self,enterEnv,e0,hgk,hsk,hl2,hgb,hgb1,hsb,hsb1,List.append_assoc,reader,hat2,fillL,evParts,splice,List.take_zero,List.take_succ_cons,List.drop_succ_cons,List.drop_zero,List.drop_nil,convV,readSl,rl_len,slice_rl,runesOf_rl,htl,List.append_nil]
          rw [fin1, hdr]
          exact hK _
    · intro j T hte
      rw [textTok, hte] at hK
      simp -implicitDefEqProofs (disch := omega) only [↓ZD,ZP,cnd_t,cnd_f,↓reduceIte,Env.put,stepO,lenV,binV,binInt,unV,loadV,sliceV,boundOf,convV,slstrV,if_pos,if_neg,Int.reduceToNat,Nat.reducePow,V.cells,V.isCell,V.boxable,Nat.reduceEqDiff,reduceCtorEq,reduceIte,ite_self,enterEnv,e0,hgk,hsk,hl2,hgb,hgb1,hsb,hsb1,List.append_assoc,reader,hat2,fillL,evParts,splice,List.take_zero,List.take_succ_cons,List.drop_succ_cons,List.drop_zero,List.drop_nil,convV,readSl,rl_len,slice_rl,runesOf_rl,htl]
      exact hK _ _
  rw [if_neg htx] at hK
  simp -implicitDefEqProofs (disch := omega) only [↓ZD,ZP,cnd_t,cnd_f,↓reduceIte,Env.put,stepO,lenV,binV,binInt,unV,loadV,sliceV,boundOf,convV,slstrV,if_pos,if_neg,Int.reduceToNat,Nat.reducePow,V.cells,V.isCell,V.boxable,Nat.reduceEqDiff,reduceCtorEq,reduceIte,ite_self,enterEnv,e0,hgk,hsk,hl2,hgb,hgb1,hsb,hsb1,List.append_assoc,reader,hat2,fillL,evParts,splice,List.take_zero,List.take_succ_cons,List.drop_succ_cons,List.drop_zero,List.drop_nil,convV,readSl,rl_len,slice_rl,runesOf_rl,htl]
  refine calP_ro rfl (good52 c) rfl ?_
  cases hL : isL c with
  | true =>
    rw [hL, if_pos rfl] at hK
    simp -implicitDefEqProofs (disch := omega) only [↓ZD,ZP,cnd_t,cnd_f,↓reduceIte,Env.put,stepO,lenV,binV,binInt,unV,loadV,sliceV,boundOf,convV,slstrV,if_pos,if_neg,Int.reduceToNat,Nat.reducePow,V.cells,V.isCell,V.boxable,Nat.reduceEqDiff,reduceCtorEq,reduceIte,ite_self,enterEnv,e0,hgk,hsk,hl2,hgb,hgb1,hsb,hsb1,List.append_assoc,reader,hat2,fillL,evParts,splice,List.take_zero,List.take_succ_cons,List.drop_succ_cons,List.drop_zero,List.drop_nil,convV,readSl,rl_len,slice_rl,runesOf_rl,htl]
    have hnc : nameC c = true := by simp [nameC, hL]
    have hsp : spanTo nameC rs i = i + (c :: (rs.drop (i + 1)).takeWhile nameC).length := by
      rw [spanTo, hdr, List.takeWhile_cons, hnc, if_pos rfl]
    have hle := (spanTo_le (p := nameC) (rs := rs) (i := i) (by omega)).2
    have htk : (c :: rs.drop (i + 1)).take (c :: (rs.drop (i + 1)).takeWhile nameC).length = c :: (rs.drop (i + 1)).takeWhile nameC := by
      rw [List.length_cons, List.take_succ_cons, take_while_len]
    refine calP_heap (call28 _ k i 53 nameC rs _ (hgk _ _) (by omega) (by omega) good53 ?_)
    rw [hsp] at hle ⊢
    rw [nameTok] at hK
    generalize c :: (rs.drop (i + 1)).takeWhile nameC = w at *
    have hsub : (((i + w.length : Nat) : Int) - (i : Int)) = (w.length : Nat) := by omega
    by_cases h32 : 32 < w.length
    · rw [if_pos h32] at hK
      simp -implicitDefEqProofs (disch := omega) only [↓ZD,ZP,cnd_t,cnd_f,↓reduceIte,Env.put,stepO,lenV,binV,binInt,unV,loadV,sliceV,boundOf,convV,slstrV,if_pos,if_neg,Int.reduceToNat,Nat.reducePow,V.cells,V.isCell,V.boxable,Nat.reduceEqDiff,reduceCtorEq,reduceIte,ite_self,enterEnv,e0,hgk,hsk,hl2,hgb,hgb1,hsb,hsb1,List.append_assoc,reader,hat2,fillL,evParts,splice,List.take_zero,List.take_succ_cons,List.drop_succ_cons,List.drop_zero,List.drop_nil,convV,readSl,rl_len,slice_rl,runesOf_rl,htl,hsub]
      exact hK _ _
    · rw [if_neg h32] at hK
      simp -implicitDefEqProofs (disch := omega) only [↓ZD,ZP,cnd_t,cnd_f,↓reduceIte,Env.put,stepO,lenV,binV,binInt,unV,loadV,sliceV,boundOf,convV,slstrV,if_pos,if_neg,Int.reduceToNat,Nat.reducePow,V.cells,V.isCell,V.boxable,Nat.reduceEqDiff,reduceCtorEq,reduceIte,ite_self,enterEnv,e0,hgk,hsk,hl2,hgb,hgb1,hsb,hsb1,List.append_assoc,reader,hat2,fillL,evParts,splice,List.take_zero,List.take_succ_cons,List.drop_succ_cons,List.drop_zero,List.drop_nil,convV,readSl,rl_len,slice_rl,runesOf_rl,htl,hsub]
      rw [hdr, htk]
      have := hK [.cells 0 0 true [.int .u8 3, .str (encs w), .int .i64 (i : Nat), .sl true [] 0, .sl true [] 0]]
      rw [htk] at this
      exact this
  | false =>
  rw [hL, if_neg (by decide)] at hK
  by_cases hq : c = 9109
  · rw [if_pos hq] at hK
    simp -implicitDefEqProofs (disch := omega) only [↓ZD,ZP,cnd_t,cnd_f,↓reduceIte,Env.put,stepO,lenV,binV,binInt,unV,loadV,sliceV,boundOf,convV,slstrV,if_pos,if_neg,Int.reduceToNat,Nat.reducePow,V.cells,V.isCell,V.boxable,Nat.reduceEqDiff,reduceCtorEq,reduceIte,ite_self,enterEnv,e0,hgk,hsk,hl2,hgb,hgb1,hsb,hsb1,List.append_assoc,reader,hat2,fillL,evParts,splice,List.take_zero,List.take_succ_cons,List.drop_succ_cons,List.drop_zero,List.drop_nil,convV,readSl,rl_len,slice_rl,runesOf_rl,htl]
    have hsp : spanTo quadC rs (i + 1) = i + (1 + ((rs.drop (i + 1)).takeWhile quadC).length) := by unfold spanTo; omega
    have hle := (spanTo_le (p := quadC) (rs := rs) (i := i + 1) (by omega)).2
    refine calP_heap (call28 _ k (i + 1) 54 quadC rs _ (hgk _ _) (by omega) (by omega) good54 ?_)
    rw [hsp] at hle ⊢
    generalize 1 + ((rs.drop (i + 1)).takeWhile quadC).length = n at *
    simp -implicitDefEqProofs (disch := omega) only [↓ZD,ZP,cnd_t,cnd_f,↓reduceIte,Env.put,stepO,lenV,binV,binInt,unV,loadV,sliceV,boundOf,convV,slstrV,if_pos,if_neg,Int.reduceToNat,Nat.reducePow,V.cells,V.isCell,V.boxable,Nat.reduceEqDiff,reduceCtorEq,reduceIte,ite_self,enterEnv,e0,hgk,hsk,hl2,hgb,hgb1,hsb,hsb1,List.append_assoc,reader,hat2,fillL,evParts,splice,List.take_zero,List.take_succ_cons,List.drop_succ_cons,List.drop_zero,List.drop_nil,convV,readSl,rl_len,slice_rl,runesOf_rl,htl]
    rw [fin1, hdr]
    exact hK _
  rw [if_neg hq] at hK
  simp -implicitDefEqProofs (disch := omega) only [↓ZD,ZP,cnd_t,cnd_f,↓reduceIte,Env.put,stepO,lenV,binV,binInt,unV,loadV,sliceV,boundOf,convV,slstrV,if_pos,if_neg,Int.reduceToNat,Nat.reducePow,V.cells,V.isCell,V.boxable,Nat.reduceEqDiff,reduceCtorEq,reduceIte,ite_self,enterEnv,e0,hgk,hsk,hl2,hgb,hgb1,hsb,hsb1,List.append_assoc,reader,hat2,fillL,evParts,splice,List.take_zero,List.take_succ_cons,List.drop_succ_cons,List.drop_zero,List.drop_nil,convV,readSl,rl_len,slice_rl,runesOf_rl,htl]
  refine calP_ro rfl (good57 c) rfl ?_
  cases hP : isP c with
  | true =>
    rw [hP, if_pos rfl] at hK
    simp -implicitDefEqProofs (disch := omega) only [↓ZD,ZP,cnd_t,cnd_f,↓reduceIte,Env.put,stepO,lenV,binV,binInt,unV,loadV,sliceV,boundOf,convV,slstrV,if_pos,if_neg,Int.reduceToNat,Nat.reducePow,V.cells,V.isCell,V.boxable,Nat.reduceEqDiff,reduceCtorEq,reduceIte,ite_self,enterEnv,e0,hgk,hsk,hl2,hgb,hgb1,hsb,hsb1,List.append_assoc,reader,hat2,fillL,evParts,splice,List.take_zero,List.take_succ_cons,List.drop_succ_cons,List.drop_zero,List.drop_nil,convV,readSl,rl_len,slice_rl,runesOf_rl,htl]
    rw [fin1, hdr]
    exact hK _
  | false =>
  rw [hP, if_neg (by decide)] at hK
  simp -implicitDefEqProofs (disch := omega) only [↓ZD,ZP,cnd_t,cnd_f,↓reduceIte,Env.put,stepO,lenV,binV,binInt,unV,loadV,sliceV,boundOf,convV,slstrV,if_pos,if_neg,Int.reduceToNat,Nat.reducePow,V.cells,V.isCell,V.boxable,Nat.reduceEqDiff,reduceCtorEq,reduceIte,ite_self,enterEnv,e0,hgk,hsk,hl2,hgb,hgb1,hsb,hsb1,List.append_assoc,reader,hat2,fillL,evParts,splice,List.take_zero,List.take_succ_cons,List.drop_succ_cons,List.drop_zero,List.drop_nil,convV,readSl,rl_len,slice_rl,runesOf_rl,htl]
  refine calP_ro rfl (good58 signB c (by decide)) rfl ?_
  have hS0 : decide (c ∈ rn signB) = isS c := rfl
  rw [hS0]
  cases hS : isS c with
  | true =>
    rw [hS, if_pos rfl] at hK
    simp -implicitDefEqProofs (disch := omega) only [↓ZD,ZP,cnd_t,cnd_f,↓reduceIte,Env.put,stepO,lenV,binV,binInt,unV,loadV,sliceV,boundOf,convV,slstrV,if_pos,if_neg,Int.reduceToNat,Nat.reducePow,V.cells,V.isCell,V.boxable,Nat.reduceEqDiff,reduceCtorEq,reduceIte,ite_self,enterEnv,e0,hgk,hsk,hl2,hgb,hgb1,hsb,hsb1,List.append_assoc,reader,hat2,fillL,evParts,splice,List.take_zero,List.take_succ_cons,List.drop_succ_cons,List.drop_zero,List.drop_nil,convV,readSl,rl_len,slice_rl,runesOf_rl,htl]
    rw [fin1, hdr]
    exact hK _
  | false =>
    rw [hS, if_neg (by decide)] at hK
    simp -implicitDefEqProofs (disch := omega) only [↓ZD,ZP,cnd_t,cnd_f,↓reduceIte,Env.put,stepO,lenV,binV,binInt,unV,loadV,sliceV,boundOf,convV,slstrV,if_pos,if_neg,Int.reduceToNat,Nat.reducePow,V.cells,V.isCell,V.boxable,Nat.reduceEqDiff,reduceCtorEq,reduceIte,ite_self,enterEnv,e0,hgk,hsk,hl2,hgb,hgb1,hsb,hsb1,List.append_assoc,reader,hat2,fillL,evParts,splice,List.take_zero,List.take_succ_cons,List.drop_succ_cons,List.drop_zero,List.drop_nil,convV,readSl,rl_len,slice_rl,runesOf_rl,htl]
    exact hK i _
end Fe
open Go Go.Proofs
namespace Fe
def b14 : C :=
 (.seq
 (.region false [
 oQ 1 (.box (.t 0)),
 oQ 2 (.mov (.c .nilf))])
 (.seq
 (.region false [
 oQ 3 (.mkfn 27 [] [.t 1]),
 oQ 2 (.mov (.t 3))])
 .ret))
def c14 : CF := ⟨4, 1, [.mov (.t 2)], b14⟩
def b27 : C :=
 (.seq
 (.region false [
 oQ 7 (.load false 1 (.t 1)),
 oQ 8 (.build [.sl true [] 0, .int .i64 0] [(0, (1, .t 7))]),
 oQ 9 (.box (.t 8)),
 oQ 3 (.mov (.t 9))])
 (.block 0
 (.loop
 (.block 1
 (.seq
 (.region false [
 oQ 10 (.mov (.t 3)),
 ⟨some 11, .call false (.c (.fn 28 [] [])) [.t 10, .c (.fn 29 [] [])], none⟩])
 (.seq
 (.seq
 (.region true [
 oQ 12 (.mov (.t 3)),
 oQ 13 (.nilck (.t 12)),
 oQ 14 (.faddr 1 (.t 13)),
 oQ 15 (.load false 1 (.t 14)),
 oQ 16 (.load false 1 (.t 1)),
 oQ 17 (.len false (.t 16)),
 oQ 18 (.bin 0 .eql (.t 15) (.t 17)),
 oQ 19 (.mov (.t 18)),
 ⟨some 20, .op (.load false 1 (.t 1)), some (19, false)⟩,
 ⟨some 21, .op (.mov (.t 3)), some (19, false)⟩,
 ⟨some 22, .op (.nilck (.t 21)), some (19, false)⟩,
 ⟨some 23, .op (.faddr 1 (.t 22)), some (19, false)⟩,
 ⟨some 24, .op (.load false 1 (.t 23)), some (19, false)⟩,
 ⟨some 25, .op (.iaddr 1 (.t 20) (.t 24)), some (19, false)⟩,
 ⟨some 26, .op (.load false 1 (.t 25)), some (19, false)⟩,
 ⟨some 27, .op (.bin 0 .eql (.t 26) (.c (.int .i32 9053))), some (19, false)⟩,
 oQ 28 (.pick (.t 19) (.c (.bool true)) (.t 27))])
 (.cond (.t 28)
 (.seq
 (.region false [
 oQ 29 (.mov (.t 0)),
 oQ 30 (.mov (.t 3)),
 oQ 31 (.nilck (.t 30)),
 oQ 32 (.faddr 1 (.t 31)),
 oQ 33 (.load false 1 (.t 32)),
 oQ 34 (.build [.int .u8 0, .str [], .int .i64 0, .sl true [] 0, .sl true [] 0] [(2, (1, .t 33))]),
 ⟨some 35, .call false (.t 29) [.t 34, .c (.int .i64 0)], none⟩])
 .ret)
 .skip))
 (.seq
 (.region false [
 oQ 36 (.mov (.t 3)),
 oQ 37 (.nilck (.t 36)),
 oQ 38 (.faddr 1 (.t 37)),
 oQ 39 (.load false 1 (.t 38)),
 oQ 4 (.mov (.t 39))])
 (.seq
 (.region false [
 oQ 41 (.mov (.t 3)),
 ⟨some 42, .call false (.c (.fn 30 [] [])) [.t 41], none⟩,
 oQ 40 (.mov (.t 42)),
 oQ 43 (.extract (.t 40) 0),
 oQ 44 (.extract (.t 40) 1),
 oQ 5 (.box (.c (.agg [.int .u8 0, .str [], .int .i64 0, .sl true [] 0, .sl true [] 0]))),
 ⟨none, .op (.store 5 (.t 5) (.t 43)), none⟩,
 oQ 6 (.mov (.t 44))])
 (.seq
 (.region false [
 oQ 45 (.mov (.t 4)),
 oQ 46 (.faddr 2 (.t 5)),
 ⟨none, .op (.store 1 (.t 46) (.t 45)), none⟩])
 (.seq
 (.region false [
 oQ 47 (.mov (.t 0)),
 oQ 48 (.load true 5 (.t 5)),
 oQ 49 (.mov (.t 6)),
 ⟨some 50, .call false (.t 47) [.t 48, .t 49], none⟩,
 oQ 51 (.un .not (.t 50)),
 oQ 52 (.mov (.t 51)),
 ⟨some 53, .op (.mov (.t 6)), some (52, false)⟩,
 ⟨some 54, .op (.bin 0 .neq (.t 53) (.c (.int .i64 0))), some (52, false)⟩,
 oQ 55 (.pick (.t 52) (.c (.bool true)) (.t 54))])
 (.cond (.t 55)
 .ret
 .skip)))))))))))
def c27 : CF := ⟨56, 1, [], b27⟩
theorem s14 : stripF Go.Proofs.Try.prog 14 = some c14 := by kernel_rfl
theorem s27 : stripF Go.Proofs.Try.prog 27 = some c27 := by kernel_rfl

/-- Tokens, as values. -/
def tokC (kind : Nat) (text : List UInt8) (i : Nat) (a1 a2 : V) : List V := [.int .u8 (kind : Nat), .str text, .int .i64 (i : Nat), a1, a2]
def endTok (i : Nat) : List V := tokC 0 [] i nilV nilV

/-- A line's tokens, or an error and its place. -/
def lexL : Nat → Nat → List Nat → Except (Nat × Nat) (List (List V))
  | 0, _, _ => .ok []
  | n + 1, i, l =>
    match l.dropWhile blankC with
    | [] => .ok [endTok (i + (l.takeWhile blankC).length)]
    | c :: r => if c = 9053 then .ok [endTok (i + (l.takeWhile blankC).length)] else match tokenS (c :: r) with
      | .err e => .error (e, i + (l.takeWhile blankC).length)
      | .ok kind k a1 a2 => match lexL n (i + (l.takeWhile blankC).length + k) ((c :: r).drop k) with
        | .error x => .error x
        | .ok ts => .ok (tokC kind (encs ((c :: r).take k)) (i + (l.takeWhile blankC).length) a1 a2 :: ts)

theorem good14 (rs : List Nat) : Good Go.Proofs.Try.prog 14 [rsl rs] (.fn 27 [] [.rptr [rsl rs] 0]) := by
  refine good_go mix s14 (Nat.le_of_ble_eq_true rfl) fun e he => ?_
  have e0 : e 0 = rsl rs := he 0
  clear he
  simp only [c14,b14, oQ]
  simp -implicitDefEqProofs (disch := omega) only [↓ZD,ZP,cnd_t,cnd_f,↓reduceIte,Env.put,stepO,lenV,binV,binInt,unV,loadV,sliceV,boundOf,convV,slstrV,if_pos,if_neg,Int.reduceToNat,Nat.reducePow,V.cells,V.isCell,V.boxable,Nat.reduceEqDiff,reduceCtorEq,reduceIte,ite_self,enterEnv,e0,rsl]
  refine gives_lend 1 (v' := .fn 27 [] [.rptr [rsl rs] 0]) ?_ (by simp [V.ro, roL, rsl, rl_ro]) rfl
  simp only [lend1,borL,bor]
  rfl

theorem drop_takeWhile {p : Nat → Bool} (l : List Nat) : l.drop (l.takeWhile p).length = l.dropWhile p := by
  induction l with
  | nil => rfl
  | cons c l ih =>
    rw [List.takeWhile_cons, List.dropWhile_cons]
    split
    · simpa using ih
    · rfl

theorem itemOf_ro (s : List UInt8) : roL (itemOf (ratP s).1) = true := by
  obtain ⟨b, x, y, m, h⟩ := ratP_agg s
  rw [h]
  simp [itemOf, rv, roL, V.ro, nf_ro]
theorem textItems_ro (l : List Nat) : roL (textItems l) = true := by
  unfold textItems
  split
  · rfl
  · exact items_ro l

theorem tokenS_cell {l : List Nat} {kind n : Nat} {a1 a2 : V} (h : tokenS l = .ok kind n a1 a2) : ∃ e1 l1 n1 e2 l2 n2, a1 = .sl e1 l1 n1 ∧ a2 = .sl e2 l2 n2 ∧ roL l1 = true ∧ roL l2 = true := by
  have nn : ∃ e1 l1 n1 e2 l2 n2, nilV = .sl e1 l1 n1 ∧ nilV = .sl e2 l2 n2 ∧ roL l1 = true ∧ roL l2 = true := ⟨_, _, _, _, _, _, rfl, rfl, rfl, rfl⟩
  cases l with
  | nil => cases h
  | cons c r =>
    rw [tokenS] at h
    split at h
    · rw [numTok] at h
      split at h
      · simp only [TR.ok.injEq] at h
        obtain ⟨_, _, h1, h2⟩ := h
        subst h1; subst h2
        exact ⟨_, _, _, _, _, _, rfl, rfl, rfl, itemOf_ro _⟩
      · cases h
    split at h
    · rw [textTok] at h
      split at h
      · cases h
      · split at h
        · simp only [TR.ok.injEq] at h
          obtain ⟨_, _, h1, h2⟩ := h
          subst h1; subst h2
          exact ⟨_, _, _, _, _, _, rfl, rfl, rfl, rfl⟩
        · simp only [TR.ok.injEq] at h
          obtain ⟨_, _, h1, h2⟩ := h
          subst h1; subst h2
          exact ⟨_, _, _, _, _, _, rfl, rfl, rfl, textItems_ro _⟩
    split at h
    · rw [nameTok] at h
      split at h
      · cases h
      · simp only [TR.ok.injEq] at h
        obtain ⟨_, _, h1, h2⟩ := h
        subst h1; subst h2
        exact nn
    split at h
    · simp only [TR.ok.injEq] at h
      obtain ⟨_, _, h1, h2⟩ := h
      subst h1; subst h2
      exact nn
    split at h
    · simp only [TR.ok.injEq] at h
      obtain ⟨_, _, h1, h2⟩ := h
      subst h1; subst h2
      exact nn
    split at h
    · simp only [TR.ok.injEq] at h
      obtain ⟨_, _, h1, h2⟩ := h
      subst h1; subst h2
      exact nn
    · cases h

/-- How many characters a token has: some, and no more than there are. -/
theorem tokenS_n {l : List Nat} {kind n : Nat} {a1 a2 : V} (h : tokenS l = .ok kind n a1 a2) : 1 ≤ n ∧ n ≤ l.length := by
  cases l with
  | nil => cases h
  | cons c r =>
    have tw : ∀ p : Nat → Bool, (r.takeWhile p).length ≤ r.length := fun p => (List.takeWhile_prefix p).length_le
    rw [tokenS] at h
    split at h
    · rw [numTok] at h
      split at h
      · cases h; have := tw numC; simp only [List.length_cons]; omega
      · cases h
    split at h
    · rw [textTok] at h
      split at h
      · cases h
      · rename_i out m ht
        have hb := textS_bound _ _ (Nat.le_refl _) out m ht
        split at h
        · cases h; simp only [List.length_cons]; omega
        · cases h; simp only [List.length_cons]; omega
    split at h
    · rw [nameTok] at h
      split at h
      · cases h
      · cases h; have := tw nameC; simp only [List.length_cons]; omega
    split at h
    · cases h; have := tw quadC; simp only [List.length_cons]; omega
    split at h
    · cases h; simp only [List.length_cons]; omega
    split at h
    · cases h; simp only [List.length_cons]; omega
    · cases h

theorem ratP_err {s : List UInt8} : (ratP s).2 = 0 ∨ (ratP s).2 = 8 ∨ (ratP s).2 = 22 := by
  have hm : ∀ b n d, (makeR b n d).2 = 0 ∨ (makeR b n d).2 = 8 ∨ (makeR b n d).2 = 22 := by
    intro b n d
    unfold makeR
    split
    · exact .inr (.inr rfl)
    · rcases lowR_cases b n d with h | h | ⟨_, _, _, h⟩ <;> rw [h] <;> simp
  unfold ratP
  split
  · exact .inr (.inl rfl)
  split
  · exact .inr (.inr rfl)
  split
  · exact hm _ _ _
  split
  · exact hm _ _ _
  · exact hm _ _ _

theorem tokenS_e {c : Nat} {r : List Nat} {e : Nat} (h : tokenS (c :: r) = .err e) : e = 8 ∨ e = 22 ∨ e = 26 ∨ e = 27 := by
  rw [tokenS] at h
  split at h
  · rw [numTok] at h
    split at h
    · cases h
    · simp only [TR.err.injEq] at h
      have := @ratP_err (encs (c :: r.takeWhile numC))
      omega
  split at h
  · rw [textTok] at h
    split at h
    · cases h; simp
    · split at h <;> cases h
  split at h
  · rw [nameTok] at h
    split at h
    · cases h; simp
    · cases h
  split at h
  · cases h
  split at h
  · cases h
  split at h
  · cases h
  · cases h; simp

theorem dropWhile_len {p : Nat → Bool} (l : List Nat) : (l.dropWhile p).length ≤ l.length := by
  rw [← drop_takeWhile, List.length_drop]; omega
theorem lexL_fuel : ∀ (n m i : Nat) (l : List Nat), l.length < n → l.length < m → lexL n i l = lexL m i l
  | 0, m, i, l, h, _ => absurd h (Nat.not_lt_zero _)
  | n + 1, 0, i, l, _, h => absurd h (Nat.not_lt_zero _)
  | n + 1, m + 1, i, l, h1, h2 => by
    have hd := dropWhile_len (p := blankC) l
    rw [lexL, lexL]
    cases hdw : l.dropWhile blankC with
    | nil => rfl
    | cons c r =>
      simp only
      by_cases hc : c = 9053
      · rw [if_pos hc, if_pos hc]
      · rw [if_neg hc, if_neg hc]
        cases ht : tokenS (c :: r) with
        | err e => rfl
        | ok kind k a1 a2 =>
          have hn := tokenS_n ht
          rw [hdw] at hd
          simp only
          rw [lexL_fuel n m _ _ (by rw [List.length_drop]; omega) (by rw [List.length_drop]; omega)]

theorem call27 (rs : List Nat) (k : Nat) (H₀ : Heap) (K : V → Heap → Prop) (J : List (List V) → Heap → Prop) (JE : Nat → Nat → Heap → Prop) (hl : rs.length ≤ 1024) (hch : ∀ c ∈ rs, charOK c)
    (h0 : J [] (H₀ ++ [reader rs 0])) (hst : ∀ ts H x T, J ts H → J ts (H.set H₀.length x ++ T))
    (hy : ∀ ts H i kind text j x1 l1 n1 x2 l2 n2, roL l1 = true → roL l2 = true → ts.length ≤ rs.length → J ts H → H[H₀.length]? = some (reader rs i) → Yld Go.Proofs.Try.prog k [.agg (tokC kind text j (.sl x1 l1 n1) (.sl x2 l2 n2)), .int .i64 0] H fun r H' => r = .bool true ∧ J (ts ++ [tokC kind text j (.sl x1 l1 n1) (.sl x2 l2 n2)]) H' ∧ H'[H₀.length]? = some (reader rs i))
    (hye : ∀ ts H e j, e ≠ 0 → J ts H → Yld Go.Proofs.Try.prog k [.agg (tokC 0 [] j nilV nilV), .int .i64 (e : Nat)] H fun r H' => r = .bool false ∧ JE e j H')
    (hK : ∀ ts H, lexL (rs.length + 1) 0 rs = .ok ts → J ts H → K (.tup []) H) (hKE : ∀ e j H, lexL (rs.length + 1) 0 rs = .error (e, j) → JE e j H → K (.tup []) H) :
    Call2 Go.Proofs.Try.prog 27 [.yld k, .rptr [rsl rs] 0] H₀ K := by
  refine call2_go mix s27 (Nat.le_of_ble_eq_true rfl) fun e he => ?_
  have e0 : e 0 = .yld k := he 0
  have e1 : e 1 = .rptr [rsl rs] 0 := he 1
  clear he
  simp only [c27,b27, oQ]
  simp -implicitDefEqProofs (disch := omega) only [↓ZD,ZP,cnd_t,cnd_f,↓reduceIte,Env.put,stepO,lenV,binV,binInt,unV,loadV,sliceV,boundOf,convV,slstrV,if_pos,if_neg,Int.reduceToNat,Nat.reducePow,V.cells,V.isCell,V.boxable,Nat.reduceEqDiff,reduceCtorEq,reduceIte,ite_self,enterEnv,e0,e1,rsl,fillL,evParts,splice,List.take_zero,List.take_succ_cons,List.drop_succ_cons,List.drop_zero,List.drop_nil]
  have hLX : ∃ LX, lexL (rs.length + 1) 0 rs = LX := ⟨_, rfl⟩
  obtain ⟨LX, hLX⟩ := hLX
  rw [hLX] at hK hKE
  refine go_loop (fun m e H => ∃ i ts, H[H₀.length]? = some (reader rs i) ∧ J ts H ∧ i ≤ rs.length ∧ ts.length ≤ i ∧ m = rs.length - i ∧
      LX = (match lexL (rs.length - i + 1) i (rs.drop i) with
        | .error x => .error x
        | .ok ts' => .ok (ts ++ ts')) ∧ e 0 = .yld k ∧ e 1 = .rptr [rsl rs] 0 ∧ e 3 = .cell H₀.length 0 0)
    rs.length ⟨0, [], get_push_at, h0, Nat.zero_le _, Nat.zero_le _, rfl, ?_, ?_, ?_, ?_⟩ ?_
  · simp only [Nat.sub_zero,List.drop_zero,List.nil_append]
    rw [hLX]
    cases LX <;> rfl
  · simp [Env.set, e0]
  · simp [Env.set, e1]
  · simp [Env.set]
  rintro m e H ⟨i, ts, hk, hJ, hi, htl, rfl, hlex, e0, e1, e3⟩
  have hkl := getElem?_lt hk
  simp -implicitDefEqProofs (disch := omega) only [↓ZD,ZP,cnd_t,cnd_f,↓reduceIte,Env.put,stepO,lenV,binV,binInt,unV,loadV,sliceV,boundOf,convV,slstrV,if_pos,if_neg,Int.reduceToNat,Nat.reducePow,V.cells,V.isCell,V.boxable,Nat.reduceEqDiff,reduceCtorEq,reduceIte,ite_self,enterEnv,e0,e1,e3]
  refine calP_heap (call28 _ _ i 29 blankC rs _ hk hi (by omega) good29 ?_)
  have hsp : spanTo blankC rs i = i + ((rs.drop i).takeWhile blankC).length := rfl
  have hle := spanTo_le (p := blankC) (rs := rs) hi
  have hdw := drop_takeWhile (p := blankC) (rs.drop i)
  rw [List.drop_drop] at hdw
  rw [lexL, ← hdw, ← hsp] at hlex
  rw [← hsp] at hdw
  generalize spanTo blankC rs i = j at *
  have hJ1 := hst ts H (reader rs j) [] hJ
  rw [List.append_nil] at hJ1
  have hk1 : (H.set H₀.length (reader rs j))[H₀.length]? = some (reader rs j) := get_set_self hkl
  have hH1l : (H.set H₀.length (reader rs j)).length = H.length := List.length_set
  generalize hH1 : H.set H₀.length (reader rs j) = H1 at *
  have hk1' : H1[H₀.length]? = some (.cells 0 0 true [.sl false (rl rs) rs.length, .int .i64 (j : Nat)]) := hk1
  have hkl1 : H₀.length < H1.length := by omega
  rcases Nat.lt_or_ge j rs.length with hlt | hge
  · have hat : rs[j]? = some rs[j] := List.getElem?_eq_getElem hlt
    have hat2 := rl_get hat
    generalize rs[j] = c at *
    have hdr := drop_at hat
    rw [hdr] at hlex
    by_cases hc : c = 9053
    · simp only [if_pos hc] at hlex
      simp -implicitDefEqProofs (disch := omega) only [↓ZD,ZP,cnd_t,cnd_f,↓reduceIte,Env.put,stepO,lenV,binV,binInt,unV,loadV,sliceV,boundOf,convV,slstrV,if_pos,if_neg,Int.reduceToNat,Nat.reducePow,V.cells,V.isCell,V.boxable,Nat.reduceEqDiff,reduceCtorEq,reduceIte,ite_self,enterEnv,e0,e1,e3,rsl,hk1',hkl1,hat2,fillL,evParts,splice,List.take_zero,List.take_succ_cons,List.drop_succ_cons,List.drop_zero,List.drop_nil]
      refine calP_yld (yld_mono (hy ts H1 j 0 [] j true [] 0 true [] 0 rfl rfl (by omega) hJ1 hk1) ?_)
      rintro r H' ⟨rfl, hJ', _⟩
      simp -implicitDefEqProofs (disch := omega) only [↓ZD,ZP,cnd_t,cnd_f,↓reduceIte,Env.put,stepO,lenV,binV,binInt,unV,loadV,sliceV,boundOf,convV,slstrV,if_pos,if_neg,Int.reduceToNat,Nat.reducePow,V.cells,V.isCell,V.boxable,Nat.reduceEqDiff,reduceCtorEq,reduceIte,ite_self,enterEnv]
      exact hK _ _ hlex hJ'
    · simp only [if_neg hc] at hlex
      simp -implicitDefEqProofs (disch := omega) only [↓ZD,ZP,cnd_t,cnd_f,↓reduceIte,Env.put,stepO,lenV,binV,binInt,unV,loadV,sliceV,boundOf,convV,slstrV,if_pos,if_neg,Int.reduceToNat,Nat.reducePow,V.cells,V.isCell,V.boxable,Nat.reduceEqDiff,reduceCtorEq,reduceIte,ite_self,enterEnv,e0,e1,e3,rsl,hk1',hkl1,hat2,fillL,evParts,splice,List.take_zero,List.take_succ_cons,List.drop_succ_cons,List.drop_zero,List.drop_nil]
      refine calP_heap (call30 H1 _ j rs _ hk1 hlt hl hch ?_)
      rw [TokPost, hdr]
      have hset2 : ∀ x, H1.set H₀.length x = H.set H₀.length x := by intro x; rw [← hH1, List.set_set]
      cases htok : tokenS (c :: rs.drop (j + 1)) with
      | err er =>
        intro q T
        rw [htok] at hlex
        simp only at hlex
        have her := tokenS_e htok
        rw [hset2]
        have hJ2 := fun X => hst ts H (reader rs q) X hJ
        have hne : er ≠ 0 := by omega
        have hb : ∀ (r x : HObj) (T : Heap), (H.set H₀.length r ++ T ++ [x])[(H.set H₀.length r ++ T).length]? = some x := fun r x T => get_push_at
        generalize hT : H.set H₀.length (reader rs q) ++ T = H2 at *
        simp -implicitDefEqProofs (disch := omega) only [↓ZD,ZP,ZL,cnd_t,cnd_f,↓reduceIte,Env.put,stepO,lenV,binV,binInt,unV,loadV,sliceV,boundOf,convV,slstrV,if_pos,if_neg,Int.reduceToNat,Nat.reducePow,V.cells,V.isCell,V.boxable,Nat.reduceEqDiff,reduceCtorEq,reduceIte,ite_self,enterEnv,e0,e1,e3,rsl,nilV,fillL,evParts,splice,List.take_zero,List.take_succ_cons,List.drop_succ_cons,List.drop_zero,List.drop_nil]
        refine calP_yld (yld_mono (hye ts _ er j hne ?_) ?_)
        · rw [← hT, List.append_assoc]
          exact hJ2 _
        · rintro r H' ⟨rfl, hJ'⟩
          simp -implicitDefEqProofs (disch := omega) only [↓ZD,ZP,cnd_t,cnd_f,↓reduceIte,Env.put,stepO,lenV,binV,binInt,unV,loadV,sliceV,boundOf,convV,slstrV,if_pos,if_neg,Int.reduceToNat,Nat.reducePow,V.cells,V.isCell,V.boxable,Nat.reduceEqDiff,reduceCtorEq,reduceIte,ite_self,enterEnv]
          exact hKE _ _ _ hlex hJ'
      | ok kind n a1 a2 =>
        intro T
        rw [htok] at hlex
        simp only at hlex
        have hn := tokenS_n htok
        rw [← hdr, List.length_drop] at hn
        rw [hset2]
        have hJ2 := fun X => hst ts H (reader rs (j + n)) X hJ
        have hkk : ∀ X : Heap, (H.set H₀.length (reader rs (j + n)) ++ X)[H₀.length]? = some (reader rs (j + n)) := by
          intro X
          rw [List.getElem?_append_left (by rw [List.length_set]; exact hkl)]
          exact get_set_self hkl
        generalize hT : H.set H₀.length (reader rs (j + n)) ++ T = H2 at *
        obtain ⟨x1, l1, n1, x2, l2, n2, ha1, ha2, hr1, hr2⟩ := tokenS_cell htok
        rw [ha1, ha2] at hlex ⊢
        have hyy := hy ts (H2 ++ [.cells 0 0 true (tokC kind (encs ((c :: rs.drop (j + 1)).take n)) j (.sl x1 l1 n1) (.sl x2 l2 n2))]) (j + n) kind (encs ((c :: rs.drop (j + 1)).take n)) j x1 l1 n1 x2 l2 n2 hr1 hr2 (by omega) (by rw [← hT, List.append_assoc]; exact hJ2 _) (by rw [← hT, List.append_assoc]; exact hkk _)
        simp -implicitDefEqProofs (disch := omega) only [↓ZD,ZP,ZL,cnd_t,cnd_f,↓reduceIte,Env.put,stepO,lenV,binV,binInt,unV,loadV,sliceV,boundOf,convV,slstrV,if_pos,if_neg,Int.reduceToNat,Nat.reducePow,V.cells,V.isCell,V.boxable,Nat.reduceEqDiff,reduceCtorEq,reduceIte,ite_self,enterEnv,e0,e1,e3,rsl,nilV,fillL,evParts,splice,List.take_zero,List.take_succ_cons,List.drop_succ_cons,List.drop_zero,List.drop_nil]
        refine calP_yld (yld_mono hyy ?_)
        rintro r H' ⟨rfl, hJ', hk'⟩
        simp -implicitDefEqProofs (disch := omega) only [↓ZD,ZP,cnd_t,cnd_f,↓reduceIte,Env.put,stepO,lenV,binV,binInt,unV,loadV,sliceV,boundOf,convV,slstrV,if_pos,if_neg,Int.reduceToNat,Nat.reducePow,V.cells,V.isCell,V.boxable,Nat.reduceEqDiff,reduceCtorEq,reduceIte,ite_self,enterEnv,e0,e1,e3,rsl,nilV]
        refine ⟨rs.length - (j + n), by omega, j + n, _, hk', hJ', by omega, by rw [List.length_append, List.length_singleton]; omega, rfl, ?_⟩
        rw [hlex]
        have hdd : (c :: rs.drop (j + 1)).drop n = rs.drop (j + n) := by rw [← hdr, List.drop_drop]
        have hfuel : lexL (rs.length - i) (j + n) (rs.drop (j + n)) = lexL (rs.length - (j + n) + 1) (j + n) (rs.drop (j + n)) := lexL_fuel _ _ _ _ (by rw [List.length_drop]; omega) (by rw [List.length_drop]; omega)
        rw [hdd, hfuel]
        cases lexL (rs.length - (j + n) + 1) (j + n) (rs.drop (j + n)) with
        | error x => rfl
        | ok ts' => simp
  · have hjl : j = rs.length := by omega
    rw [List.drop_of_length_le hge] at hlex
    simp only at hlex
    simp -implicitDefEqProofs (disch := omega) only [↓ZD,ZP,cnd_t,cnd_f,↓reduceIte,Env.put,stepO,lenV,binV,binInt,unV,loadV,sliceV,boundOf,convV,slstrV,if_pos,if_neg,Int.reduceToNat,Nat.reducePow,V.cells,V.isCell,V.boxable,Nat.reduceEqDiff,reduceCtorEq,reduceIte,ite_self,enterEnv,e0,e1,e3,rsl,hk1',hkl1,fillL,evParts,splice,List.take_zero,List.take_succ_cons,List.drop_succ_cons,List.drop_zero,List.drop_nil]
    refine calP_yld (yld_mono (hy ts H1 j 0 [] j true [] 0 true [] 0 rfl rfl (by omega) hJ1 hk1) ?_)
    rintro r H' ⟨rfl, hJ', _⟩
    simp -implicitDefEqProofs (disch := omega) only [↓ZD,ZP,cnd_t,cnd_f,↓reduceIte,Env.put,stepO,lenV,binV,binInt,unV,loadV,sliceV,boundOf,convV,slstrV,if_pos,if_neg,Int.reduceToNat,Nat.reducePow,V.cells,V.isCell,V.boxable,Nat.reduceEqDiff,reduceCtorEq,reduceIte,ite_self,enterEnv]
    exact hK _ _ hlex hJ'
end Fe
