/-
  The tables that a row lays; contracts: strings.ReplaceAll by the kit, Quote; contracts. No condition.
-/
import Derived.Test.YtjgjfabmakkooaaGreatDoorFfN
import Derived.Test.YtjgjfabmakkooaaGreatDoorProg
import Derived.Lib.LaidU8
import Derived.Shelf.LaysM
import Derived.Shelf.Strings.Replace
import Derived.Lib.CountLaws
set_option linter.unusedSimpArgs false
set_option linter.unusedVariables false
open Go Go.Proofs
namespace Fe
theorem gFirst : Go.Proofs.Tryz.prog.globalNamed "unicode/utf8.first" = some 0 := by kernel_rfl
theorem gAcc : Go.Proofs.Tryz.prog.globalNamed "unicode/utf8.acceptRanges" = some 1 := by kernel_rfl
theorem yFirst : (Go.Proofs.Tryz.prog.globals[0]?).map (·.type) = some 141 := by kernel_rfl
theorem yAcc : (Go.Proofs.Tryz.prog.globals[1]?).map (·.type) = some 145 := by kernel_rfl
theorem uFirst : Go.Proofs.Tryz.prog.underlying 141 = some (.array 256 5) := by kernel_rfl
theorem uAcc : Go.Proofs.Tryz.prog.underlying 145 = some (.array 16 144) := by kernel_rfl
theorem uRow : Go.Proofs.Tryz.prog.underlying 144 = some (.struct #[{ name := "lo", type := 5, offset := 0, embedded := false, tag := "", pkgPath := "unicode/utf8", byteOffset := 0 }, { name := "hi", type := 5, offset := 1, embedded := false, tag := "", pkgPath := "unicode/utf8", byteOffset := 1 }]) := by kernel_rfl
theorem uByte : Go.Proofs.Tryz.prog.underlying 5 = some (.int .u8) := by kernel_rfl
theorem cByte : Go.Proofs.Tryz.prog.cellsOf 5 = 1 := by kernel_rfl
theorem cFirst : Go.Proofs.Tryz.prog.cellsOf 141 = 256 := by kernel_rfl
theorem cRow : Go.Proofs.Tryz.prog.cellsOf 144 = 2 := by kernel_rfl

def accD : List (DataW Unit) := [.agg [.lit (.int .u8 128), .lit (.int .u8 191)], .agg [.lit (.int .u8 160), .lit (.int .u8 191)], .agg [.lit (.int .u8 128), .lit (.int .u8 159)], .agg [.lit (.int .u8 144), .lit (.int .u8 191)], .agg [.lit (.int .u8 128), .lit (.int .u8 143)], .agg [.lit (.int .u8 0), .lit (.int .u8 0)], .agg [.lit (.int .u8 0), .lit (.int .u8 0)], .agg [.lit (.int .u8 0), .lit (.int .u8 0)], .agg [.lit (.int .u8 0), .lit (.int .u8 0)], .agg [.lit (.int .u8 0), .lit (.int .u8 0)], .agg [.lit (.int .u8 0), .lit (.int .u8 0)], .agg [.lit (.int .u8 0), .lit (.int .u8 0)], .agg [.lit (.int .u8 0), .lit (.int .u8 0)], .agg [.lit (.int .u8 0), .lit (.int .u8 0)], .agg [.lit (.int .u8 0), .lit (.int .u8 0)], .agg [.lit (.int .u8 0), .lit (.int .u8 0)]]
theorem accD_at : ∀ i, i < 16 → accD[i]? = some (.agg ([((acceptL.getD (2 * i) 0 : Nat) : Int), ((acceptL.getD (2 * i + 1) 0 : Nat) : Int)].map fun z => .lit (.int .u8 z))) := by
  intro i hi
  match i, hi with
  | 0, _ | 1, _ | 2, _ | 3, _ | 4, _ | 5, _ | 6, _ | 7, _ | 8, _ | 9, _ | 10, _ | 11, _ | 12, _ | 13, _ | 14, _ | 15, _ => rfl
  | n + 16, h => exact absurd h (by omega)

/-- The tables that a row lays are the tables that the evaluator knows. -/
theorem tabs_of_laid {W : World} (h : laidMet Go.Proofs.Tryz.prog [("unicode/utf8.acceptRanges", .agg accD), ("unicode/utf8.first", Go.Pinned.utf8First)] W) : Tabs Go.Proofs.Tryz.prog (fun _ => False) W := by
  have r1 := Lib.laidMet.reads h (n := "unicode/utf8.first") (d := Go.Pinned.utf8First) (by simp)
  have r2 := Lib.laidMet.reads h (n := "unicode/utf8.acceptRanges") (d := .agg accD) (by simp)
  have c1 : ∀ i (hi : i < utf8F.length), W.cell? ⟨0, i, none⟩ = some (.int .u8 (utf8F[i] : Nat)) := by
    intro i hi
    obtain ⟨g, t, cs, fuel, p, hg, hty, hvar, hd⟩ := r1
    obtain rfl := Option.some.inj (gFirst.symm.trans hg)
    obtain rfl := Option.some.inj (yFirst.symm.trans hty)
    have e : (Go.Pinned.utf8First : DataW Unit) = Lib.tabData .u8 (utf8F.map fun (n : Nat) => (n : Int)) := by
      unfold Go.Pinned.utf8First Lib.tabData Go.Pinned.numbers utf8F
      rw [List.map_map]; rfl
    rw [e] at hd
    have hcs := Lib.cells_of_tab uFirst uByte cByte cFirst hd
    rw [World.var?_cell hg hvar i, ← Array.getElem?_toList, hcs]
    simp [List.getElem?_eq_getElem hi]
  have c2 : ∀ i, i < 32 → W.cell? ⟨1, i, none⟩ = some (.int .u8 ((acceptL.getD i 0 : Nat) : Int)) := by
    intro i hi32
    obtain ⟨g, t, cs, fuel, p, hg, hty, hvar, hd⟩ := r2
    obtain rfl := Option.some.inj (gAcc.symm.trans hg)
    obtain rfl := Option.some.inj (yAcc.symm.trans hty)
    obtain ⟨fuel', d, q, hdi, he⟩ := Lib.array_elem uAcc hd (i / 2) (by omega)
    rw [accD_at _ (by omega), Option.some.injEq] at hdi
    subst hdi
    rw [cRow] at he
    have hcs := Lib.ints_of_struct uRow (fun j f hj => by
      match j, hj with
      | 0, hj => simp at hj; subst hj; exact ⟨uByte, rfl, cByte⟩
      | 1, hj => simp at hj; subst hj; exact ⟨uByte, rfl, cByte⟩
      | j + 2, hj => simp at hj) (by rw [cRow]; rfl) he
    have e0 := congrArg (·[0]?) hcs
    have e1 := congrArg (·[1]?) hcs
    simp only [List.getElem?_take,List.getElem?_drop] at e0 e1
    rw [World.var?_cell hg hvar i, ← Array.getElem?_toList]
    rcases Nat.mod_two_eq_zero_or_one i with hm | hm
    · have : i = i / 2 * 2 + 0 := by omega
      rw [this]
      have h2 : 2 * (i / 2) = i / 2 * 2 + 0 := by omega
      rw [h2] at e0
      simpa using e0
    · have : i = i / 2 * 2 + 1 := by omega
      rw [this]
      have h2 : 2 * (i / 2) + 1 = i / 2 * 2 + 1 := by omega
      rw [h2] at e1
      have h3 : (i / 2 * 2 + 1) / 2 = i / 2 := by omega
      simpa [h3] using e1
  intro g ns hg
  unfold tabOf at hg
  rw [gFirst, gAcc] at hg
  split at hg
  · rename_i h1
    obtain rfl := Option.some.inj h1
    cases hg
    exact ⟨fun h => h, cell_lt (c1 0 (by rw [show utf8F.length = 256 by kernel_rfl]; decide)), c1⟩
  · split at hg
    · rename_i h1
      obtain rfl := Option.some.inj h1
      cases hg
      exact ⟨fun h => h, cell_lt (c2 0 (by decide)), fun i hi => (c2 i hi).trans (by simp [List.getD, List.getElem?_eq_getElem hi])⟩
    · cases hg
theorem base_of_laid {W : World} (h : laidMet Go.Proofs.Tryz.prog [("unicode/utf8.acceptRanges", .agg accD), ("unicode/utf8.first", Go.Pinned.utf8First)] W) (hm : MaxL Go.Proofs.Tryz.prog (fun _ => False) W) : Base Go.Proofs.Tryz.prog (fun _ => False) W := ⟨tabs_of_laid h, hm⟩
end Fe
namespace Go.Proofs
open Go.Shelf
def Tryz.lays155_ren : Go.Shelf.Ren := ⟨fun | 155 => 24 | 154 => 49 | 138 => 84 | 165 => 85 | 143 => 86 | 166 => 87 | 197 => 37 | 169 => 88 | 195 => 96 | 218 => 117 | 240 => 118 | 241 => 119 | 219 => 120 | 260 => 75 | 276 => 140 | 277 => 141 | 217 => 142 | 225 => 143 | 224 => 144 | 267 => 145 | 266 => 153 | 314 => 154 | n => n, fun | 9 => 9 | 3 => 3 | 4 => 4 | 72 => 122 | 0 => 0 | 76 => 126 | 105 => 84 | 21 => 21 | 5 => 5 | 70 => 119 | 20 => 20 | 37 => 120 | 75 => 125 | 127 => 156 | 164 => 175 | 46 => 142 | 119 => 141 | 139 => 145 | 138 => 144 | 146 => 181 | 51 => 115 | 80 => 92 | n => n, fun | 1 => 2 | 3 => 0 | 4 => 1 | n => n⟩
theorem Tryz.lays155 : Go.Proofs.LaysM.n155 Tryz.prog Tryz.lays155_ren := { mixed := by kernel_rfl, f138 := Tryz.func84.trans (congrArg some (by kernel_rfl)), f143 := Tryz.func86.trans (congrArg some (by kernel_rfl)), f154 := Tryz.func49.trans (congrArg some (by kernel_rfl)), f155 := Tryz.func24.trans (congrArg some (by kernel_rfl)), f165 := Tryz.func85.trans (congrArg some (by kernel_rfl)), f166 := Tryz.func87.trans (congrArg some (by kernel_rfl)), f169 := Tryz.func88.trans (congrArg some (by kernel_rfl)), f195 := Tryz.func96.trans (congrArg some (by kernel_rfl)), f197 := Tryz.func37.trans (congrArg some (by kernel_rfl)), f217 := Tryz.func142.trans (congrArg some (by kernel_rfl)), f218 := Tryz.func117.trans (congrArg some (by kernel_rfl)), f219 := Tryz.func120.trans (congrArg some (by kernel_rfl)), f224 := Tryz.func144.trans (congrArg some (by kernel_rfl)), f225 := Tryz.func143.trans (congrArg some (by kernel_rfl)), f240 := Tryz.func118.trans (congrArg some (by kernel_rfl)), f241 := Tryz.func119.trans (congrArg some (by kernel_rfl)), f260 := Tryz.func75.trans (congrArg some (by kernel_rfl)), f266 := Tryz.func153.trans (congrArg some (by kernel_rfl)), f267 := Tryz.func145.trans (congrArg some (by kernel_rfl)), f276 := Tryz.func140.trans (congrArg some (by kernel_rfl)), f277 := Tryz.func141.trans (congrArg some (by kernel_rfl)), f314 := Tryz.func154.trans (congrArg some (by kernel_rfl)), t0 := Tryz.underlying0, a0 := Tryz.isAgg0, z0 := Tryz.sizeOf0, v0 := Tryz.zeroValue0, t3 := Tryz.underlying3, a3 := Tryz.isAgg3, z3 := Tryz.sizeOf3, v3 := Tryz.zeroValue3, t4 := Tryz.underlying4, a4 := Tryz.isAgg4, z4 := Tryz.sizeOf4, v4 := Tryz.zeroValue4, t5 := Tryz.underlying5, a5 := Tryz.isAgg5, z5 := Tryz.sizeOf5, v5 := Tryz.zeroValue5, t9 := Tryz.underlying9, a9 := Tryz.isAgg9, z9 := Tryz.sizeOf9, v9 := Tryz.zeroValue9, t20 := Tryz.underlying20, a20 := Tryz.isAgg20, z20 := Tryz.sizeOf20, v20 := Tryz.zeroValue20, t21 := Tryz.underlying21, a21 := Tryz.isAgg21, z21 := Tryz.sizeOf21, v21 := Tryz.zeroValue21, t37 := Tryz.underlying120, a37 := Tryz.isAgg120, z37 := Tryz.sizeOf120, v37 := Tryz.zeroValue120, t46 := Tryz.underlying142, a46 := Tryz.isAgg142, z46 := Tryz.sizeOf142, v46 := Tryz.zeroValue142, t51 := Tryz.underlying115, a51 := Tryz.isAgg115, z51 := Tryz.sizeOf115, v51 := Tryz.zeroValue115, t70 := Tryz.underlying119, a70 := Tryz.isAgg119, z70 := Tryz.sizeOf119, v70 := Tryz.zeroValue119, t72 := Tryz.underlying122, a72 := Tryz.isAgg122, z72 := Tryz.sizeOf122, v72 := Tryz.zeroValue122, t75 := Tryz.underlying125, a75 := Tryz.isAgg125, z75 := Tryz.sizeOf125, v75 := Tryz.zeroValue125, t76 := Tryz.underlying126, a76 := Tryz.isAgg126, z76 := Tryz.sizeOf126, v76 := Tryz.zeroValue126, t105 := Tryz.underlying84, a105 := Tryz.isAgg84, z105 := Tryz.sizeOf84, v105 := Tryz.zeroValue84, t119 := Tryz.underlying141, a119 := Tryz.isAgg141, z119 := Tryz.sizeOf141, t127 := Tryz.underlying156, a127 := Tryz.isAgg156, z127 := Tryz.sizeOf156, v127 := Tryz.zeroValue156, t138 := Tryz.underlying144, a138 := Tryz.isAgg144, z138 := Tryz.sizeOf144, v138 := Tryz.zeroValue144, t139 := Tryz.underlying145, a139 := Tryz.isAgg145, z139 := Tryz.sizeOf145, v139 := Tryz.zeroValue145, t146 := Tryz.underlying181, a146 := Tryz.isAgg181, z146 := Tryz.sizeOf181, v146 := Tryz.zeroValue181, t164 := Tryz.underlying175, a164 := Tryz.isAgg175, z164 := Tryz.sizeOf175, v164 := Tryz.zeroValue175, g1 := by kernel_rfl, g3 := by kernel_rfl, g4 := by kernel_rfl, t80 := Tryz.underlying92, a80 := Tryz.isAgg92, z80 := Tryz.sizeOf92, v80 := Tryz.zeroValue92, i0 := by kernel_rfl, i3 := by kernel_rfl, i4 := by kernel_rfl, i5 := by kernel_rfl, i9 := by kernel_rfl, i20 := by kernel_rfl, i21 := by kernel_rfl, i37 := by kernel_rfl, i46 := by kernel_rfl, i51 := by kernel_rfl, i70 := by kernel_rfl, i72 := by kernel_rfl, i75 := by kernel_rfl, i76 := by kernel_rfl, i80 := by kernel_rfl, i105 := by kernel_rfl, i127 := by kernel_rfl, i138 := by kernel_rfl, i139 := by kernel_rfl, i146 := by kernel_rfl, i164 := by kernel_rfl, m1 := by kernel_rfl, s1_3 := fun w h => Go.Proofs.cell_of_shapedOpen_int (zero := #[.int .i64 0]) (t := 3) h (of_decide_eq_true (by kernel_rfl)) (by kernel_rfl) rfl (by kernel_rfl) (by kernel_rfl) Tryz.underlying3, m3 := by kernel_rfl, m4 := by kernel_rfl }
theorem Tryz.builder155 : Builder.Extra Tryz.prog Tryz.lays155_ren := { sizeBuilder := by kernel_rfl, liesBuilder := by kernel_rfl, t5 := Tryz.underlying5, a5 := Tryz.isAgg5, z5 := Tryz.sizeOf5, v5 := Tryz.zeroValue5, infoByte := by kernel_rfl, cellsByte := by kernel_rfl, sizeByte := by kernel_rfl, neB5 := by decide }
end Go.Proofs
open Go Go.Proofs
open Go.RowKit
namespace Fe

theorem max_named : Go.Proofs.Tryz.prog.globalNamed "internal/bytealg.MaxLen" = some 2 := by kernel_rfl
theorem max_of_shaped {W : World} (h : W.ShapedOpen Go.Proofs.Tryz.prog) : MaxL Go.Proofs.Tryz.prog (fun _ => False) W := fun g hg => by
  obtain rfl := Option.some.inj (max_named.symm.trans hg)
  obtain ⟨m, hm⟩ := Tryz.lays155.s1_3 W h
  exact ⟨fun h => h, cell_lt hm, m, hm⟩

/-- A call that a contract of the kit speaks of, as one of ours: a text comes back. -/
theorem good_text {P : Program} {f : FuncId} {ar : List V} {r : List UInt8} (he : Enters P f)
    (h : ∀ (w : World) (ca : Array Value), MaxL P (fun _ => False) w → ca.size = ar.length → (∀ (Bad : Nat → Prop), (∀ i (h : i < ar.length), Rel (fun k => k) [] Bad w ar[i] (ca.getD i undef)) → Calls P f ca w fun e w' => ∃ ba : ByteArray, ba.data.toList = r ∧ e = .returned (.string ba) ∧ Below w.heap.size w w')) : Good P f ar (.str r) := by
  refine ⟨he, fun Bad w ca hbad hbase hs hrel => (h w ca (fun g hg => ?_) hs Bad hrel).mono ?_⟩
  · obtain ⟨_, h2, m, h3⟩ := hbase.2 g hg
    exact ⟨fun h => h, h2, m, h3⟩
  · rintro e w' ⟨ba, rfl, rfl, hb⟩
    refine ⟨_, rfl, hb, rfl, fun k => k, ?_, ?_, ?_⟩
    · refine ⟨fun B hB => Nat.lt_of_lt_of_le (hbad B hB) hb.size, fun i j hi => absurd hi (Nat.not_lt_zero _), fun k hk => absurd hk (Nat.not_lt_zero _), fun k _ _ _ _ h => by simp [adopt, adopt1] at h, fun k _ _ h => by simp [adopt, adopt1] at h, fun k _ _ _ _ _ h => by simp [adopt, adopt1] at h, fun k _ h => by simp [adopt, adopt1] at h, ?_⟩
      refine hbase.same hb.size (fun B hB _ => ?_) (fun B _ h => ?_)
      · exact hb.block B hB
      · rcases h with h | ⟨k, o, hk, _⟩
        · exact h
        · simp [adopt, adopt1] at hk
    · intro k hk
      exact absurd hk (Nat.not_lt_zero _)
    · exact .str ba
end Fe
open Go Go.Proofs
open Go.RowKit
namespace Fe
def b412 : C :=
 (.seq
 (.region false [
 oQ 2 (.mov (.c (.str [])))])
 (.seq
 (.region false [
 oQ 3 (.mov (.t 0)),
 ⟨some 4, .call false (.c (.fn 24 [] [])) [.t 3, .c (.str [39]), .c (.str [39, 39])], none⟩,
 oQ 5 (.bin 0 .add (.c (.str [39])) (.t 4)),
 oQ 6 (.bin 0 .add (.t 5) (.c (.str [39]))),
 oQ 2 (.mov (.t 6))])
 .ret))
def c412 : CF := ⟨7, 1, [.mov (.t 2)], b412⟩
theorem s412 : stripF Go.Proofs.Tryz.prog 12 = some c412 := by kernel_rfl

/-! ### Quotes, doubled -/
def dbl : List UInt8 → List UInt8
  | [] => []
  | c :: s => if c = 39 then 39 :: 39 :: dbl s else c :: dbl s

theorem pre39 (b : UInt8) (l : List UInt8) : ([39] : List UInt8).isPrefixOf (b :: l) = (39 == b) := by simp [List.isPrefixOf]
theorem dbl_none : ∀ s : List UInt8, Lib.index s [39] = -1 → dbl s = s
  | [], _ => rfl
  | b :: l, h => by
    rw [Lib.index, pre39] at h
    by_cases hb : b = 39
    · subst hb; simp at h
    · have : ((39 : UInt8) == b) = false := by simpa using fun h => hb h.symm
      rw [this] at h
      simp only [Bool.false_eq_true,if_false] at h
      have hl : Lib.index l [39] = -1 := by
        by_cases h1 : Lib.index l [39] = -1
        · exact h1
        · have hge := Lib.index_ge l [39]
          rw [if_neg (by simpa using h1)] at h
          omega
      rw [dbl, if_neg hb, dbl_none l hl]
theorem dbl_some : ∀ (s : List UInt8) (i : Nat), Lib.index s [39] = i → dbl s = s.take i ++ [39, 39] ++ dbl (s.drop (i + 1))
  | [], i, h => by
    rw [Lib.index] at h
    simp at h
  | b :: l, i, h => by
    rw [Lib.index, pre39] at h
    by_cases hb : b = 39
    · subst hb
      simp at h
      obtain rfl : i = 0 := by omega
      rw [dbl, if_pos rfl]
      rfl
    · have : ((39 : UInt8) == b) = false := by simpa using fun h => hb h.symm
      rw [this] at h
      simp only [Bool.false_eq_true,if_false] at h
      by_cases h1 : Lib.index l [39] = -1
      · rw [if_pos (by simpa using h1)] at h; omega
      · rw [if_neg (by simpa using h1)] at h
        have hge := Lib.index_ge l [39]
        obtain ⟨j, rfl⟩ : ∃ j, i = j + 1 := ⟨i - 1, by omega⟩
        rw [dbl, if_neg hb, dbl_some l j (by omega)]
        simp
theorem repl_dbl : ∀ (n : Nat) (s : List UInt8), s.length ≤ n → Lib.replaceK [39] [39, 39] (Lib.count s [39]) s = dbl s
  | n, s, hn => by
    by_cases h : Lib.index s [39] = -1
    · rw [Lib.count_miss h, dbl_none s h]; rfl
    · have hge := Lib.index_ge s [39]
      obtain ⟨i, hi⟩ : ∃ i : Nat, Lib.index s [39] = i := ⟨(Lib.index s [39]).toNat, by omega⟩
      have hroom := Lib.index_room s [39] (by omega)
      rw [Lib.count_hit (by simp) hi, Nat.add_comm 1, Lib.replaceK_hit _ _ _ _ i hi, dbl_some s i hi]
      simp only [List.length_singleton] at hroom ⊢
      cases n with
      | zero => omega
      | succ n => rw [repl_dbl n _ (by rw [List.length_drop]; omega)]
theorem all_dbl (s : List UInt8) : Lib.replaceAll s [39] [39, 39] = dbl s := by
  rw [Lib.replaceAll, Lib.replace, if_neg (by decide), Lib.replaceNum, if_pos (.inl (by decide))]
  exact repl_dbl _ s (Nat.le_refl _)
theorem dbl_len : ∀ s : List UInt8, (dbl s).length ≤ 2 * s.length
  | [] => Nat.le_refl _
  | c :: s => by
    have := dbl_len s
    rw [dbl]
    split <;> simp only [List.length_cons] <;> omega

theorem good424 (s : List UInt8) (hs : s.length ≤ 1100000) : Good Go.Proofs.Tryz.prog 24 [.str s, .str [39], .str [39, 39]] (.str (dbl s)) := by
  refine good_text ⟨_, Tryz.func24, by kernel_rfl, by decide⟩ fun w ca hm hsz Bad hrel => ?_
  obtain ⟨_, _, m, hm⟩ := hm 2 max_named
  have h0 := hrel 0 (by simp)
  have h1 := hrel 1 (by simp)
  have h2 := hrel 2 (by simp)
  simp only [List.getElem_cons_zero,List.getElem_cons_succ] at h0 h1 h2
  generalize hc0 : ca.getD 0 undef = v0 at h0
  generalize hc1 : ca.getD 1 undef = v1 at h1
  generalize hc2 : ca.getD 2 undef = v2 at h2
  generalize ho : ([39] : List UInt8) = o at h1
  generalize hn : ([39, 39] : List UInt8) = n at h2
  cases h0 with
  | str ba0 =>
    cases h1 with
    | str ba1 =>
      cases h2 with
      | str ba2 =>
        have hca : ca = #[.string ba0, .string ba1, .string ba2] := by
          apply Array.ext
          · simpa using hsz
          · intro i h1 h2
            simp at h2
            have e : ca[i] = ca.getD i undef := by simp [Array.getD, h1]
            rw [e]
            match i, h2 with
            | 0, _ => exact hc0
            | 1, _ => exact hc1
            | 2, _ => exact hc2
            | i + 3, h => omega
        rw [hca]
        have hs0 : ba0.size ≤ 1100000 := by rw [← ByteArray.size_data, ← Array.length_toList]; exact hs
        have hs1 : ba1.size = 1 := by rw [← ByteArray.size_data, ← Array.length_toList, ← ho]; rfl
        have hs2 : ba2.size = 2 := by rw [← ByteArray.size_data, ← Array.length_toList, ← hn]; rfl
        have hcb := Lib.countB_mul_le ba1 (by omega) ba0.size ba0 (Nat.le_refl _)
        rw [hs1, Nat.mul_one] at hcb
        refine (Any.strings_ReplaceAll { Tryz.lays155 with } Tryz.builder155 ba0 ba1 ba2 m w (by omega) hm (by omega) (by rw [hs2]; omega)).mono ?_
        rintro e w' ⟨rfl, hb⟩
        refine ⟨_, ?_, rfl, hb⟩
        rw [← ho, ← hn, all_dbl]

def quoteB (s : List UInt8) : List UInt8 := 39 :: (dbl s ++ [39])
theorem good412 (s : List UInt8) (hs : s.length ≤ 1100000) : Good Go.Proofs.Tryz.prog 12 [.str s] (.str (quoteB s)) := by
  refine good_go mix s412 (Nat.le_of_ble_eq_true rfl) fun e he => ?_
  have e0 : e 0 = .str s := he 0
  clear he
  simp only [c412,b412, oQ]
  have hl := dbl_len s
  simp -implicitDefEqProofs (disch := omega) only [↓ZD,ZP,cnd_t,cnd_f,↓reduceIte,Env.put,stepO,lenV,binV,binInt,unV,loadV,sliceV,boundOf,convV,slstrV,if_pos,if_neg,Int.reduceToNat,Nat.reducePow,V.cells,V.isCell,V.boxable,Nat.reduceEqDiff,reduceCtorEq,reduceIte,ite_self,enterEnv,e0]
  refine calP_ro rfl (good424 s hs) rfl ?_
  simp -implicitDefEqProofs (disch := omega) only [↓ZD,ZP,cnd_t,cnd_f,↓reduceIte,Env.put,stepO,lenV,binV,binInt,unV,loadV,sliceV,boundOf,convV,slstrV,if_pos,if_neg,Int.reduceToNat,Nat.reducePow,V.cells,V.isCell,V.boxable,Nat.reduceEqDiff,reduceCtorEq,reduceIte,ite_self,enterEnv,e0,binStr]
  exact gives_eq rfl rfl

/-! ### A text's characters, and back -/
end Fe
