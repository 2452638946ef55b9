/-
  Contracts; contracts. No condition.
-/
import Derived.Test.YtfpgfjmngkfdoaaGreatDoorFkN
import Derived.JoinedCond
import Derived.Test.YtfpgfjmngkfdoaaGreatDoorProg
import Derived.Shelf.Vars
set_option linter.unusedSimpArgs false
set_option linter.unusedVariables false
namespace Fe
open Go

/-! ### A row's closed facts, in five parts -/
theorem joined_of {P : Program} {f : FuncId} {fn : Func} {s : ChangeSpec} {c : OpenClaim}
    (g1 : (c.wf (OpenSpec.ofChange s) && (laidOutB P && mapsRowed P)) = true)
    (g2 : (fn.params.all (P.readableRec ·) && namedTie P c.named s.vars && (c.stops == []) && (P.stops == []) && (c.knobs == []) && (P.stopKnobs == []) && (c.inPlace == P.inPlace f) && (c.unfollowed == P.unfollowed f)) = true)
    (g3 : ((c.recurses == P.recurses f) && (c.named == P.varsNamed f)) = true)
    (g4 : ((c.maps == (fn.params.toList ++ s.plain.varTypes P).any (P.mapsRec ·)) && (c.ifaces == (fn.params.toList ++ s.plain.varTypes P).any (P.ifacesRec ·)) && (c.mapsOut == P.mapsAmong fn.resultTypes.toList) &&
      (c.loops == (fn.params.toList ++ s.plain.varTypes P).any (P.loopsFrom ·)) && (c.wideKeys == (fn.params.toList ++ s.plain.varTypes P ++ fn.resultTypes.toList).any (P.wideKeysFrom ·)) &&
      s.vars.all (P.varReadable ·) && fn.resultTypes.all (fun t => P.readableRec t && decide (t < P.types.size)) && (c.ifacesOut == fn.resultTypes.toList.any (P.ifacesRec ·)) && (c.loopsOut == fn.resultTypes.toList.any (P.loopsFrom ·)) && (c.plainKeys == P.plainKeys)) = true)
    (g5 : (c.shortTexts.isNone && P.stopsHeard && P.mayEnter && (c.lifted == P.liftsFinal) && (P.make == some c.make)) = true)
    (g6 : ((c.kinds == (if c.domain.isEmpty then [] else fn.params.toList.map fun t => match P.underlying t with | some (.int k) => some k | _ => none)) && (c.pinned == c.pinnedBy) &&
      (c.veiled == (fn.params.toList ++ s.plain.varTypes P ++ fn.resultTypes.toList).any (P.veiledRec ·)) && c.veiledFits P fn.params.toList (fn.params.toList ++ s.plain.varTypes P ++ fn.resultTypes.toList)) = true) :
    joinedFacts P f fn s c = true := by
  unfold joinedFacts
  generalize c.wf (OpenSpec.ofChange s) = a1 at *
  simp only [Bool.and_eq_true] at g1 g2 g3 g4 g5 g6
  obtain ⟨h1, h2, h3⟩ := g1
  obtain ⟨⟨⟨⟨⟨⟨⟨i1, i2⟩, i3⟩, i4⟩, i5⟩, i6⟩, i7⟩, i8⟩ := g2
  obtain ⟨j1, j2⟩ := g3
  obtain ⟨⟨⟨⟨⟨⟨⟨⟨⟨k1, k2⟩, k3⟩, k4⟩, k5⟩, k6⟩, k7⟩, k8⟩, k9⟩, k10⟩ := g4
  obtain ⟨⟨⟨⟨l1, l2⟩, l3⟩, l4⟩, l5⟩ := g5
  obtain ⟨⟨⟨m1, m2⟩, m3⟩, m4⟩ := g6
  rw [h1, h2, h3, i1, i2, i3, i4, i5, i6, i7, i8, j1, j2, k1, k2, k3, k4, k5, k6, k7, k8, k9, k10, l1, l2, l3, l4, l5]
  simp only [Bool.true_and,Bool.and_eq_true]
  exact ⟨⟨⟨m1, m2⟩, m3⟩, m4⟩
end Fe
open Go Go.Proofs
open Go.RowKit
namespace Fe
theorem max_named : Go.Proofs.Tryz.prog.globalNamed "internal/bytealg.MaxLen" = some 2 := by kernel_rfl
theorem max_of_shaped {W : World} (h : W.ShapedOpen Go.Proofs.Tryz.prog) : MaxL Go.Proofs.Tryz.prog (fun _ => False) W := fun g hg => by
  obtain rfl := Option.some.inj (max_named.symm.trans hg)
  obtain ⟨m, hm⟩ := Go.Proofs.cell_of_shapedOpen_int (zero := #[.int .i64 0]) (t := 3) h (of_decide_eq_true (by kernel_rfl)) (by kernel_rfl) rfl (by kernel_rfl) (by kernel_rfl) Tryz.underlying3
  exact ⟨fun h => h, cell_lt hm, m, hm⟩
end Fe
