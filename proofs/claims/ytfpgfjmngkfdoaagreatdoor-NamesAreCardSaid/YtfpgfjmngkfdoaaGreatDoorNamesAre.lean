/-
  NamesAre: FOR EVERY TEXT the law returns true, and the text reads as it did: the row and its card. No condition.
-/
import Derived.Test.YtfpgfjmngkfdoaaGreatDoorCards
import Derived.Test.YtfpgfjmngkfdoaaGreatDoorTie
import Derived.WalkKit
import Derived.ProofKit
import Derived.OpenShut
import Derived.Deep.DeepHandedRow
import Derived.Lib.LaidTab
import Derived.Test.YtfpgfjmngkfdoaaGreatDoorFkN
import Derived.Test.YtfpgfjmngkfdoaaGreatDoorFlA
import Derived.Test.YtfpgfjmngkfdoaaGreatDoorFgL
set_option maxRecDepth 100000
namespace Go.Proofs.YtfpgfjmngkfdoaaGreatDoor
open Go.ChangeShapes Go.WideShapes Go.ChangeAt Go.RowKit
open Go.ChangeMaps (open_string shut_string)

theorem own : ownKnob Tryz.prog.godebug = none := by kernel_rfl

/-- What the walk gives, where the tables lie. -/
theorem namesAre_calls (s : ByteArray) (W : World) (hB : Fe.Base Tryz.prog (fun _ => False) W) :
    Calls Tryz.prog 3 #[.string s] W fun e W' => e = .returned (.bool true) ∧ Below W.heap.size W W' := by
  obtain ⟨_, hg⟩ := Fe.good603 s.data.toList
  refine (hg (fun _ => False) W #[.string s] (fun B hB => hB.elim) hB rfl (fun i hi => ?_)).mono ?_
  · obtain rfl : i = 0 := by simp at hi; omega
    exact .str s
  · rintro e W' ⟨c, rfl, hb, _, ρ, _, _, hrel⟩
    cases hrel
    exact ⟨rfl, hb⟩

set_option maxRecDepth 100000 in
theorem namesAre_contract (H : Type) (enc : TypeId × Value → H) (W : World) (base : Nat) (args : Array Value) (ds gs : List (DataW H)) (before : List MemPlace)
    (hval : ∀ (j : Nat) t v, Tryz.f3.params[j]? = some t → args[j]? = some v → Value.okWide Tryz.prog W .any base t v)
    (hW : DataW.Whole enc Tryz.prog Tryz.f3.params.toList Rows.namesAreSpec.vars false W args.toList ds gs before) (hL : laidMetH Tryz.prog Rows.namesAreRow.laid W) (hShape : W.ShapedOpen Tryz.prog) :
    Calls Tryz.prog 3 args W fun e W' => ∃ v, e = .returned v ∧ Rows.namesAreSpec.post enc Tryz.prog Tryz.f3 false true false false W args v W' := by
  have hW' := hW
  obtain ⟨p, q, hA0, hV, rfl, hfz, hnd⟩ := hW
  have hA : DataW.TrodAll enc Tryz.prog W 0 (fun _ => true) true Tryz.f3.params.toList args.toList ds p := hA0
  rw [Tryz.params3] at hA hval
  obtain ⟨v0, d0, rfl, rfl, h0⟩ := trodAll_one hA
  obtain ⟨rfl, rfl⟩ := trodVars_none hV
  obtain ⟨s, rfl, rfl, rfl, ws⟩ := open_string Tryz.underlying9 (hval 0 9 v0 rfl rfl) h0
  clear hA0
  simp only [List.append_nil] at hW'
  refine (namesAre_calls s W (Fe.base_of_laid hL (Fe.max_of_shaped hShape))).mono fun e W' ⟨he, hg⟩ => ?_
  subst he
  refine ⟨_, rfl, _, _, _, [], [], [], hW', ?_, ?_, ?_, hg.frame _, fun h => by cases h⟩
  · exact trodAll_mk1 (shut_bool Tryz.underlying4 _)
  · exact trodAll_cons_mk (shut_string Tryz.underlying9 ws) trodAll_mk0
  · rfl

/-- A world for the witness: the settled one, the tables holding what the program lays. -/
noncomputable def laidWorld (os : Os) : World :=
  let w0 := World.holding Tryz.prog os ⟨#[], #[], []⟩
  let put (h : Array Obj) (g : Nat) (cs : Array Value) : Array Obj := h.modify g fun
    | .cells _ t frozen => .cells cs t frozen
    | o => o
  { w0 with heap := put (put w0.heap 0 (Fe.utf8F.map fun (n : Nat) => Value.int .u8 (n : Int)).toArray) 1 (Fe.acceptL.map fun (n : Nat) => Value.int .u8 (n : Int)).toArray }
theorem laid_met (os : Os) : laidMet Tryz.prog Rows.namesAreRow.laid ((laidWorld os).forCall (fun _ _ => 0) ⟨#[], #[.string ⟨#[]⟩], []⟩).memory :=
  laidMet_of_run' 8 (by kernel_rfl) (by kernel_rfl)
theorem namesAre_reads (os : Os) {H : Type} (enc : TypeId × Value → H) : ∃ places, DataW.whole enc Tryz.prog ((laidWorld os).forCall (fun _ _ => 0) ⟨#[], #[.string ⟨#[]⟩], []⟩).memory Tryz.f3.params.toList Rows.namesAreSpec.vars false #[Value.string ⟨#[]⟩].toList 8 = some ([.lit (.string [])], [], places) :=
  ⟨[], by kernel_rfl⟩

set_option maxRecDepth 100000 in
theorem namesAre_lifted (os : Os) (started : os.Started) (H : Type) (enc : TypeId × Value → H) (F : Stop.Interp) :
    ReturnsInHanded {} Tryz.checked os 3 .any ((OpenSpec.ofChange Rows.namesAreSpec).preRow enc Tryz.prog Tryz.f3 Rows.namesAreRow.domain false Rows.namesAreRow.laid) (((OpenSpec.ofChange Rows.namesAreSpec).at F).post enc Tryz.prog Tryz.f3 false true false false) := by
  obtain ⟨places, hx⟩ := namesAre_reads os enc
  refine returnsInHanded_of_row (C := Tryz.checked) (s := OpenSpec.ofChange Rows.namesAreSpec) own started (by kernel_rfl) Tryz.func3
    (witness_row_at (enc := enc) (C := Tryz.checked) false (laidWorld os) #[.string ⟨#[]⟩] rfl (by kernel_rfl) (by kernel_rfl) (by kernel_rfl)
      (OpenSpec.preRow_of_cond 8 hx (by kernel_rfl) (fun k hk => by cases hk) (by kernel_rfl) (laid_met os))) ?_
  intro W base args ds gs before hval hW _ _ _ hL hShape _
  exact namesAre_contract H enc W base args ds gs before hval hW hL hShape

theorem namesAre_g1 : (Rows.namesAreRow.wf (OpenSpec.ofChange Rows.namesAreSpec) && (laidOutB Tryz.prog && mapsRowed Tryz.prog)) = true := by kernel_rfl
theorem namesAre_g2 : (Tryz.f3.params.all (Tryz.prog.readableRec ·) && namedTie Tryz.prog Rows.namesAreRow.named Rows.namesAreSpec.vars && (Rows.namesAreRow.stops == []) && (Tryz.prog.stops == []) && (Rows.namesAreRow.knobs == []) && (Tryz.prog.stopKnobs == []) && (Rows.namesAreRow.inPlace == Tryz.prog.inPlace 3) && (Rows.namesAreRow.unfollowed == Tryz.prog.unfollowed 3)) = true := by kernel_rfl
theorem namesAre_g3 : ((Rows.namesAreRow.recurses == Tryz.prog.recurses 3) && (Rows.namesAreRow.named == Tryz.prog.varsNamed 3)) = true := by kernel_rfl
theorem namesAre_g4 : ((Rows.namesAreRow.maps == (Tryz.f3.params.toList ++ Rows.namesAreSpec.plain.varTypes Tryz.prog).any (Tryz.prog.mapsRec ·)) && (Rows.namesAreRow.ifaces == (Tryz.f3.params.toList ++ Rows.namesAreSpec.plain.varTypes Tryz.prog).any (Tryz.prog.ifacesRec ·)) && (Rows.namesAreRow.mapsOut == Tryz.prog.mapsAmong Tryz.f3.resultTypes.toList) && (Rows.namesAreRow.loops == (Tryz.f3.params.toList ++ Rows.namesAreSpec.plain.varTypes Tryz.prog).any (Tryz.prog.loopsFrom ·)) && (Rows.namesAreRow.wideKeys == (Tryz.f3.params.toList ++ Rows.namesAreSpec.plain.varTypes Tryz.prog ++ Tryz.f3.resultTypes.toList).any (Tryz.prog.wideKeysFrom ·)) && Rows.namesAreSpec.vars.all (Tryz.prog.varReadable ·) && Tryz.f3.resultTypes.all (fun t => Tryz.prog.readableRec t && decide (t < Tryz.prog.types.size)) && (Rows.namesAreRow.ifacesOut == Tryz.f3.resultTypes.toList.any (Tryz.prog.ifacesRec ·)) && (Rows.namesAreRow.loopsOut == Tryz.f3.resultTypes.toList.any (Tryz.prog.loopsFrom ·)) && (Rows.namesAreRow.plainKeys == Tryz.prog.plainKeys)) = true := by kernel_rfl
theorem namesAre_g5 : (Rows.namesAreRow.shortTexts.isNone && Tryz.prog.stopsHeard && Tryz.prog.mayEnter && (Rows.namesAreRow.lifted == Tryz.prog.liftsFinal) && (Tryz.prog.make == some Rows.namesAreRow.make)) = true := by kernel_rfl
theorem namesAre_g6 : ((Rows.namesAreRow.kinds == (if Rows.namesAreRow.domain.isEmpty then [] else Tryz.f3.params.toList.map fun t => match Tryz.prog.underlying t with | some (.int k) => some k | _ => none)) && (Rows.namesAreRow.pinned == Rows.namesAreRow.pinnedBy) && (Rows.namesAreRow.veiled == (Tryz.f3.params.toList ++ Rows.namesAreSpec.plain.varTypes Tryz.prog ++ Tryz.f3.resultTypes.toList).any (Tryz.prog.veiledRec ·)) && Rows.namesAreRow.veiledFits Tryz.prog Tryz.f3.params.toList (Tryz.f3.params.toList ++ Rows.namesAreSpec.plain.varTypes Tryz.prog ++ Tryz.f3.resultTypes.toList)) = true := by kernel_rfl
theorem namesAre_said : Rows.NamesAreSaid :=
  OpenClaim.holds_of_cond 3 Tryz.f3 rfl rfl rfl rfl rfl rfl rfl ⟨rfl, rfl, rfl, rfl, rfl⟩ rfl rfl rfl rfl rfl (by kernel_rfl) Tryz.func3 (Fe.joined_of namesAre_g1 namesAre_g2 namesAre_g3 namesAre_g4 namesAre_g5 namesAre_g6)
    (of_decide_eq_true (by kernel_rfl)) (by unfold Func.isWrapper; first | (rw [if_pos (by decide +kernel)]; kernel_rfl) | (rw [if_neg (by decide +kernel)]; exact ⟨rfl, rfl⟩))
    (fun os started H enc _ F => by rw [OpenClaim.pre_eq_preRow]; exact namesAre_lifted os started H enc F)

theorem namesAre_plain (f : FuncId) (fn : Func) (hf : Tryz.pinned.checked.prog.funcNamed "glyph/glyphlaw11.NamesAre" = some f) (hfn : Tryz.pinned.checked.prog.funcs[f]? = some fn) :
    true = Tryz.pinned.checked.prog.looks [] ∧ ∀ (j : Nat) t, fn.params[j]? = some t → Tryz.pinned.checked.prog.wantsStandIn t = false := by
  obtain rfl : f = 3 := Option.some.inj ((show Tryz.prog.funcNamed "glyph/glyphlaw11.NamesAre" = some 3 by kernel_rfl).symm.trans hf) |>.symm
  obtain rfl : fn = Tryz.f3 := (Option.some.inj (Tryz.func3.symm.trans hfn)).symm
  refine ⟨by kernel_rfl, fun j t ht => ?_⟩
  rw [Tryz.params3] at ht
  rcases j with _ | j
  · obtain rfl : 9 = t := by simpa using ht
    exact (show Tryz.prog.wantsStandIn 9 = false by kernel_rfl)
  · simp at ht

theorem namesAre_card : Rows.NamesAreCardSaid :=
  Claim7.holds_tied_plain_at .later [] _ _ _ _ namesAre_said (fun _ h => by cases h) (by kernel_rfl) (fun _ h => by cases h) namesAre_row_tie rfl ⟨rfl, rfl⟩ (by kernel_rfl) rfl namesAre_plain (by kernel_rfl)

end Go.Proofs.YtfpgfjmngkfdoaaGreatDoor
