/-
  LexRunes: FOR EVERY TEXT AND CHARACTER of bulk at most 1048576 the law returns true, and both read as they did: the second form's row and its card. No condition.
-/
import Derived.Test.YtjgjfabmakkooaaDoorCards
import Derived.Test.YtjgjfabmakkooaaDoorTie
import Derived.WalkKit
import Derived.ProofKit
import Derived.OpenShut
import Derived.Deep.DeepHandedRow
import Derived.Lib.LaidTab
import Derived.Test.YtjgjfabmakkooaaDoorFgC
namespace Go.Proofs.YtjgjfabmakkooaaDoor
open Go.ChangeShapes Go.WideShapes Go.ChangeAt Go.RowKit
open Go.ChangeMaps (open_string shut_string)

theorem own : ownKnob Tryd.prog.godebug = none := by kernel_rfl

/-- What the walk gives, where the tables lie. -/
theorem lexRunes_calls (s : ByteArray) (c : Int) (hs : s.data.toList.length ≤ 1100000) (W : World) (hB : Fe.Base Tryd.prog (fun _ => False) W) :
    Calls Tryd.prog 3 #[.string s, .int .i32 c] W fun e W' => e = .returned (.bool true) ∧ Below W.heap.size W W' := by
  obtain ⟨_, hg⟩ := Fe.good203 s.data.toList c hs
  refine (hg (fun _ => False) W #[.string s, .int .i32 c] (fun B hB => hB.elim) hB rfl (fun i hi => ?_)).mono ?_
  · have : i = 0 ∨ i = 1 := by simp at hi; omega
    rcases this with rfl | rfl
    · exact .str s
    · exact .int _ _
  · rintro e W' ⟨c, rfl, hb, _, ρ, _, _, hrel⟩
    cases hrel
    exact ⟨rfl, hb⟩

theorem string_bulk {H : Type} {s : ByteArray} {l : List (DataW H)} (hk : Rows.uptoSmall H (.lit (.string s.data.toList) :: l) = true) : s.data.toList.length ≤ 1100000 := by
  have h := of_decide_eq_true hk
  simp only [Rows.uptoBulkAll, Rows.uptoBulk] at h
  omega

set_option maxRecDepth 100000 in
theorem lexRunes_contract (H : Type) (enc : TypeId × Value → H) (W : World) (base : Nat) (args : Array Value) (ds gs : List (DataW H)) (before : List MemPlace)
    (hval : ∀ (j : Nat) t v, Tryd.f3.params[j]? = some t → args[j]? = some v → Value.okWide Tryd.prog W .any base t v)
    (hW : DataW.Whole enc Tryd.prog Tryd.f3.params.toList Rows.lexRunesSpec.vars false W args.toList ds gs before) (hk : Rows.uptoSmall H (ds ++ gs) = true) (hL : laidMetH Tryd.prog Rows.lexRunesUptoRow.laid W) :
    Calls Tryd.prog 3 args W fun e W' => ∃ v, e = .returned v ∧ Rows.lexRunesSpec.post enc Tryd.prog Tryd.f3 false true false false W args v W' := by
  have hW' := hW
  obtain ⟨p, q, hA0, hV, rfl, hfz, hnd⟩ := hW
  have hA : DataW.TrodAll enc Tryd.prog W 0 (fun _ => true) true Tryd.f3.params.toList args.toList ds p := hA0
  rw [Tryd.params3] at hA hval
  obtain ⟨v0, v1, d0, d1, p0, p1, rfl, rfl, rfl, h0, h1⟩ := trodAll_two hA
  obtain ⟨rfl, rfl⟩ := trodVars_none hV
  obtain ⟨s, rfl, rfl, rfl, ws⟩ := open_string Tryd.underlying9 (hval 0 9 v0 rfl rfl) h0
  obtain ⟨c, rfl, rfl, rfl, wc⟩ := open_int Tryd.underlying21 (hval 1 21 v1 rfl rfl) h1
  clear hA0
  simp only [List.append_nil] at hW' hk
  refine (lexRunes_calls s c (string_bulk hk) W (Fe.base_of_laid hL)).mono fun e W' ⟨he, hg⟩ => ?_
  subst he
  refine ⟨_, rfl, _, _, _, [], [], [], hW', ?_, ?_, ?_, hg.frame _, fun h => by cases h⟩
  · exact trodAll_mk1 (shut_bool Tryd.underlying4 _)
  · exact trodAll_cons_mk (shut_string Tryd.underlying9 ws) (trodAll_cons_mk (shut_int Tryd.underlying21 wc) trodAll_mk0)
  · rfl

/-- A world for the witness: the settled one, the tables holding what the program lays. -/
noncomputable def laidWorld (os : Os) : World :=
  let w0 := World.holding Tryd.prog os ⟨#[], #[], []⟩
  let put (h : Array Obj) (g : Nat) (cs : Array Value) : Array Obj := h.modify g fun
    | .cells _ t frozen => .cells cs t frozen
    | o => o
  { w0 with heap := put (put w0.heap 0 (Fe.utf8F.map fun (n : Nat) => Value.int .u8 (n : Int)).toArray) 1 (Fe.acceptL.map fun (n : Nat) => Value.int .u8 (n : Int)).toArray }
theorem laid_met (os : Os) : laidMet Tryd.prog Rows.lexRunesUptoRow.laid ((laidWorld os).forCall (fun _ _ => 0) ⟨#[], #[.string ⟨#[]⟩, .int .i32 0], []⟩).memory :=
  laidMet_of_run' 8 (by kernel_rfl) (by kernel_rfl)
theorem lexRunes_reads (os : Os) {H : Type} (enc : TypeId × Value → H) : ∃ places, DataW.whole enc Tryd.prog ((laidWorld os).forCall (fun _ _ => 0) ⟨#[], #[.string ⟨#[]⟩, .int .i32 0], []⟩).memory Tryd.f3.params.toList Rows.lexRunesSpec.vars false #[Value.string ⟨#[]⟩, .int .i32 0].toList 8 = some ([.lit (.string []), .lit (.int .i32 0)], [], places) :=
  ⟨[], by kernel_rfl⟩

set_option maxRecDepth 100000 in
theorem lexRunes_lifted (os : Os) (started : os.Started) (H : Type) (enc : TypeId × Value → H) (F : Stop.Interp) :
    ReturnsInHanded {} Tryd.checked os 3 .any ((Rows.OpenSpec.upto Rows.lexRunesSpec).preRow enc Tryd.prog Tryd.f3 Rows.lexRunesUptoRow.domain false Rows.lexRunesUptoRow.laid) (((Rows.OpenSpec.upto Rows.lexRunesSpec).at F).post enc Tryd.prog Tryd.f3 false true false false) := by
  obtain ⟨places, hx⟩ := lexRunes_reads os enc
  refine returnsInHanded_of_row (C := Tryd.checked) (s := Rows.OpenSpec.upto Rows.lexRunesSpec) own started (by kernel_rfl) Tryd.func3
    (witness_row_at (enc := enc) (C := Tryd.checked) false (laidWorld os) #[.string ⟨#[]⟩, .int .i32 0] rfl (by kernel_rfl) (by kernel_rfl) (by kernel_rfl)
      (OpenSpec.preRow_of_cond 8 hx (by kernel_rfl) (fun k hk => by cases hk; kernel_rfl) (by kernel_rfl) (laid_met os))) ?_
  intro W base args ds gs before hval hW _ hcond _ hL _ _
  exact lexRunes_contract H enc W base args ds gs before hval hW (hcond _ rfl) hL

theorem lexRunes_saidUpto : Rows.LexRunesUptoSaid :=
  OpenClaim.holds_of_cond 3 Tryd.f3 rfl rfl rfl rfl rfl rfl rfl ⟨rfl, rfl, rfl, rfl, rfl⟩ rfl rfl rfl rfl rfl (by kernel_rfl) Tryd.func3 (by kernel_rfl)
    (of_decide_eq_true (by kernel_rfl)) (by unfold Func.isWrapper; first | (rw [if_pos (by decide +kernel)]; kernel_rfl) | (rw [if_neg (by decide +kernel)]; exact ⟨rfl, rfl⟩))
    (fun os started H enc _ F => by rw [OpenClaim.pre_eq_preRow]; exact lexRunes_lifted os started H enc F)

theorem lexRunes_plain (f : FuncId) (fn : Func) (hf : Tryd.pinned.checked.prog.funcNamed "glyph/glyphlaw04.LexRunes" = some f) (hfn : Tryd.pinned.checked.prog.funcs[f]? = some fn) :
    false = Tryd.pinned.checked.prog.looks [] ∧ ∀ (j : Nat) t, fn.params[j]? = some t → Tryd.pinned.checked.prog.wantsStandIn t = false := by
  obtain rfl : f = 3 := Option.some.inj ((show Tryd.prog.funcNamed "glyph/glyphlaw04.LexRunes" = some 3 by kernel_rfl).symm.trans hf) |>.symm
  obtain rfl : fn = Tryd.f3 := (Option.some.inj (Tryd.func3.symm.trans hfn)).symm
  refine ⟨by kernel_rfl, fun j t ht => ?_⟩
  rw [Tryd.params3] at ht
  rcases j with _ | _ | j
  · obtain rfl : 9 = t := by simpa using ht
    exact (show Tryd.prog.wantsStandIn 9 = false by kernel_rfl)
  · obtain rfl : 21 = t := by simpa using ht
    exact (show Tryd.prog.wantsStandIn 21 = false by kernel_rfl)
  · simp at ht

theorem lexRunes_card : Rows.LexRunesUptoCardSaid :=
  Claim7.holds_tied_plain_at .later [] _ _ _ _ lexRunes_saidUpto (fun _ h => by cases h) (by kernel_rfl) (fun _ h => by cases h) lexRunesUpto_row_tie rfl ⟨rfl, rfl⟩ (by kernel_rfl) rfl lexRunes_plain (by kernel_rfl)

end Go.Proofs.YtjgjfabmakkooaaDoor
