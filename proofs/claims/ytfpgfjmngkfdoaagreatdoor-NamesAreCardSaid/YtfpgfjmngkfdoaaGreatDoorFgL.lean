/-
  The tables that a row lays. No condition.
-/
import Derived.Test.YtfpgfjmngkfdoaaGreatDoorFfN
import Derived.Test.YtfpgfjmngkfdoaaGreatDoorProg
import Derived.Lib.LaidU8
set_option linter.unusedSimpArgs false
set_option linter.unusedVariables false
open Go Go.Proofs
namespace Fe
theorem gFirst : Go.Proofs.Tryz.prog.globalNamed "unicode/utf8.first" = some 0 := by kernel_rfl
theorem gAcc : Go.Proofs.Tryz.prog.globalNamed "unicode/utf8.acceptRanges" = some 1 := by kernel_rfl
theorem yFirst : (Go.Proofs.Tryz.prog.globals[0]?).map (·.type) = some 286 := by kernel_rfl
theorem yAcc : (Go.Proofs.Tryz.prog.globals[1]?).map (·.type) = some 289 := by kernel_rfl
theorem uFirst : Go.Proofs.Tryz.prog.underlying 286 = some (.array 256 5) := by kernel_rfl
theorem uAcc : Go.Proofs.Tryz.prog.underlying 289 = some (.array 16 288) := by kernel_rfl
theorem uRow : Go.Proofs.Tryz.prog.underlying 288 = some (.struct #[{ name := "lo", type := 5, offset := 0, embedded := false, tag := "", pkgPath := "unicode/utf8", byteOffset := 0 }, { name := "hi", type := 5, offset := 1, embedded := false, tag := "", pkgPath := "unicode/utf8", byteOffset := 1 }]) := by kernel_rfl
theorem uByte : Go.Proofs.Tryz.prog.underlying 5 = some (.int .u8) := by kernel_rfl
theorem cByte : Go.Proofs.Tryz.prog.cellsOf 5 = 1 := by kernel_rfl
theorem cFirst : Go.Proofs.Tryz.prog.cellsOf 286 = 256 := by kernel_rfl
theorem cRow : Go.Proofs.Tryz.prog.cellsOf 288 = 2 := by kernel_rfl

def accD : List (DataW Unit) := [.agg [.lit (.int .u8 128), .lit (.int .u8 191)], .agg [.lit (.int .u8 160), .lit (.int .u8 191)], .agg [.lit (.int .u8 128), .lit (.int .u8 159)], .agg [.lit (.int .u8 144), .lit (.int .u8 191)], .agg [.lit (.int .u8 128), .lit (.int .u8 143)], .agg [.lit (.int .u8 0), .lit (.int .u8 0)], .agg [.lit (.int .u8 0), .lit (.int .u8 0)], .agg [.lit (.int .u8 0), .lit (.int .u8 0)], .agg [.lit (.int .u8 0), .lit (.int .u8 0)], .agg [.lit (.int .u8 0), .lit (.int .u8 0)], .agg [.lit (.int .u8 0), .lit (.int .u8 0)], .agg [.lit (.int .u8 0), .lit (.int .u8 0)], .agg [.lit (.int .u8 0), .lit (.int .u8 0)], .agg [.lit (.int .u8 0), .lit (.int .u8 0)], .agg [.lit (.int .u8 0), .lit (.int .u8 0)], .agg [.lit (.int .u8 0), .lit (.int .u8 0)]]
theorem accD_at : ∀ i, i < 16 → accD[i]? = some (.agg ([((acceptL.getD (2 * i) 0 : Nat) : Int), ((acceptL.getD (2 * i + 1) 0 : Nat) : Int)].map fun z => .lit (.int .u8 z))) := by
  intro i hi
  match i, hi with
  | 0, _ | 1, _ | 2, _ | 3, _ | 4, _ | 5, _ | 6, _ | 7, _ | 8, _ | 9, _ | 10, _ | 11, _ | 12, _ | 13, _ | 14, _ | 15, _ => rfl
  | n + 16, h => exact absurd h (by omega)

/-- The tables that a row lays are the tables that the evaluator knows. -/
theorem tabs_of_laid {W : World} (h : laidMet Go.Proofs.Tryz.prog [("unicode/utf8.acceptRanges", .agg accD), ("unicode/utf8.first", Go.Pinned.utf8First)] W) : Tabs Go.Proofs.Tryz.prog (fun _ => False) W := by
  have r1 := Lib.laidMet.reads h (n := "unicode/utf8.first") (d := Go.Pinned.utf8First) (by simp)
  have r2 := Lib.laidMet.reads h (n := "unicode/utf8.acceptRanges") (d := .agg accD) (by simp)
  have c1 : ∀ i (hi : i < utf8F.length), W.cell? ⟨0, i, none⟩ = some (.int .u8 (utf8F[i] : Nat)) := by
    intro i hi
    obtain ⟨g, t, cs, fuel, p, hg, hty, hvar, hd⟩ := r1
    obtain rfl := Option.some.inj (gFirst.symm.trans hg)
    obtain rfl := Option.some.inj (yFirst.symm.trans hty)
    have e : (Go.Pinned.utf8First : DataW Unit) = Lib.tabData .u8 (utf8F.map fun (n : Nat) => (n : Int)) := by
      unfold Go.Pinned.utf8First Lib.tabData Go.Pinned.numbers utf8F
      rw [List.map_map]; rfl
    rw [e] at hd
    have hcs := Lib.cells_of_tab uFirst uByte cByte cFirst hd
    rw [World.var?_cell hg hvar i, ← Array.getElem?_toList, hcs]
    simp [List.getElem?_eq_getElem hi]
  have c2 : ∀ i, i < 32 → W.cell? ⟨1, i, none⟩ = some (.int .u8 ((acceptL.getD i 0 : Nat) : Int)) := by
    intro i hi32
    obtain ⟨g, t, cs, fuel, p, hg, hty, hvar, hd⟩ := r2
    obtain rfl := Option.some.inj (gAcc.symm.trans hg)
    obtain rfl := Option.some.inj (yAcc.symm.trans hty)
    obtain ⟨fuel', d, q, hdi, he⟩ := Lib.array_elem uAcc hd (i / 2) (by omega)
    rw [accD_at _ (by omega), Option.some.injEq] at hdi
    subst hdi
    rw [cRow] at he
    have hcs := Lib.ints_of_struct uRow (fun j f hj => by
      match j, hj with
      | 0, hj => simp at hj; subst hj; exact ⟨uByte, rfl, cByte⟩
      | 1, hj => simp at hj; subst hj; exact ⟨uByte, rfl, cByte⟩
      | j + 2, hj => simp at hj) (by rw [cRow]; rfl) he
    have e0 := congrArg (·[0]?) hcs
    have e1 := congrArg (·[1]?) hcs
    simp only [List.getElem?_take,List.getElem?_drop] at e0 e1
    rw [World.var?_cell hg hvar i, ← Array.getElem?_toList]
    rcases Nat.mod_two_eq_zero_or_one i with hm | hm
    · have : i = i / 2 * 2 + 0 := by omega
      rw [this]
      have h2 : 2 * (i / 2) = i / 2 * 2 + 0 := by omega
      rw [h2] at e0
      simpa using e0
    · have : i = i / 2 * 2 + 1 := by omega
      rw [this]
      have h2 : 2 * (i / 2) + 1 = i / 2 * 2 + 1 := by omega
      rw [h2] at e1
      have h3 : (i / 2 * 2 + 1) / 2 = i / 2 := by omega
      simpa [h3] using e1
  intro g ns hg
  unfold tabOf at hg
  rw [gFirst, gAcc] at hg
  split at hg
  · rename_i h1
    obtain rfl := Option.some.inj h1
    cases hg
    exact ⟨fun h => h, cell_lt (c1 0 (by rw [show utf8F.length = 256 by kernel_rfl]; decide)), c1⟩
  · split at hg
    · rename_i h1
      obtain rfl := Option.some.inj h1
      cases hg
      exact ⟨fun h => h, cell_lt (c2 0 (by decide)), fun i hi => (c2 i hi).trans (by simp [List.getD, List.getElem?_eq_getElem hi])⟩
    · cases hg
theorem base_of_laid {W : World} (h : laidMet Go.Proofs.Tryz.prog [("unicode/utf8.acceptRanges", .agg accD), ("unicode/utf8.first", Go.Pinned.utf8First)] W) (hm : MaxL Go.Proofs.Tryz.prog (fun _ => False) W) : Base Go.Proofs.Tryz.prog (fun _ => False) W := ⟨tabs_of_laid h, hm⟩
end Fe
