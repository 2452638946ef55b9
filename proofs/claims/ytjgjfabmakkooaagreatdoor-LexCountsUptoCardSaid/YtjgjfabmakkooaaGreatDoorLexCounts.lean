/-
  LexCounts: FOR EVERY TEXT AND KINDS of bulk at most 1048576 the law returns true, and both read as they did: the second form's row and its card. No condition.
-/
import Derived.Test.YtjgjfabmakkooaaGreatDoorCards
import Derived.Test.YtjgjfabmakkooaaGreatDoorTie
import Derived.WalkKit
import Derived.ProofKit
import Derived.OpenShut
import Derived.Deep.DeepHandedRow
import Derived.Lib.LaidTab
import Derived.Test.YtjgjfabmakkooaaGreatDoorFiF
import Derived.Test.YtjgjfabmakkooaaGreatDoorFgL
namespace Go.Proofs.YtjgjfabmakkooaaGreatDoor
open Go.ChangeShapes Go.WideShapes Go.ChangeAt Go.RowKit
open Go.ChangeMaps (open_string shut_string)

theorem own : ownKnob Tryz.prog.godebug = none := by kernel_rfl

/-- What the walk gives, where the tables lie. -/
theorem lexCounts_calls (s : ByteArray) (v : Value) (ks : List Int) (hs : s.data.toList.length ≤ 1100000) (hk : ks.length ≤ 100000000) (hb : ∀ k ∈ ks, 0 ≤ k ∧ k ≤ 255) (W : World) (hB : Fe.Base Tryz.prog (fun _ => False) W)
    (hv : Fe.Rel (fun k => k) [] (fun _ => False) W (.sl false (Fe.kI ks) ks.length) v) :
    Calls Tryz.prog 6 #[.string s, v] W fun e W' => e = .returned (.bool true) ∧ Below W.heap.size W W' := by
  obtain ⟨_, hg⟩ := Fe.good406 s.data.toList hs false ks hk hb
  refine (hg (fun _ => False) W #[.string s, v] (fun B hB => hB.elim) hB rfl (fun i hi => ?_)).mono ?_
  · have : i = 0 ∨ i = 1 := by simp at hi; omega
    rcases this with rfl | rfl
    · exact .str s
    · exact hv
  · rintro e W' ⟨c, rfl, hb, _, ρ, _, _, hrel⟩
    cases hrel
    exact ⟨rfl, hb⟩

theorem kinds_rel {W : World} {B o len cap : Nat} {zs : List Int} (hl : len ≤ cap) (hz : zs.length = cap) (hcell : ∀ i, i < zs.length → W.cell? ((⟨B, o, none⟩ : Addr).add i) = some (.int .u8 (zs.getD i 0))) :
    Fe.Rel (fun k => k) [] (fun _ => False) W (.sl false (Fe.kI (zs.take len)) (zs.take len).length) (.slice (some ⟨B, o, none⟩) len cap) := by
  have hn : (zs.take len).length = len := by rw [List.length_take]; omega
  rw [hn]
  refine .sl false _ len B o cap (fun i => .int .u8 (zs.getD i 0)) (fun i hi => ?_) (fun i hi => ?_) (fun _ h => h) hl (fun h => by cases h)
  · rw [Fe.kI_len, hn] at hi
    have := hcell i (by omega)
    rwa [add_plain] at this
  · have hi' : i < (zs.take len).length := by rw [Fe.kI_len] at hi; exact hi
    have e1 : (Fe.kI (zs.take len))[i] = .int .u8 (zs.getD i 0) := by
      have := Fe.kI_at hi'
      rw [List.getElem?_eq_getElem hi] at this
      rw [Option.some.inj this]
      simp [List.getD, show i < zs.length by rw [hn] at hi'; omega]
    rw [e1]
    exact .int _ _

theorem und54 : Tryz.prog.underlying 54 = some (.slice 36) := by kernel_rfl
theorem und36 : Tryz.prog.underlying 36 = some (.int .u8) := by kernel_rfl
theorem cells36 : Tryz.prog.cellsOf 36 = 1 := by kernel_rfl
theorem laid_out : laidOutB Tryz.prog = true := by kernel_rfl

theorem lits_bulk {H : Type} (k : IntKind) : ∀ zs : List Int, Rows.uptoBulkAll (H := H) (lits k zs) = zs.length
  | [] => rfl
  | z :: zs => by
    have := lits_bulk (H := H) k zs
    simp only [lits] at this
    simp only [lits, List.map_cons, Rows.uptoBulkAll, Rows.uptoBulk, this, List.length_cons]
    omega

theorem string_bulk {H : Type} {s : ByteArray} {d : DataW H} (hk : Rows.uptoSmall H [.lit (.string s.data.toList), d] = true) : s.data.toList.length ≤ 1100000 ∧ Rows.uptoBulk d ≤ 1048576 := by
  have h := of_decide_eq_true hk
  simp only [Rows.uptoBulkAll, Rows.uptoBulk] at h
  omega

set_option maxRecDepth 100000 in
theorem lexCounts_contract (H : Type) (enc : TypeId × Value → H) (W : World) (base : Nat) (args : Array Value) (ds gs : List (DataW H)) (before : List MemPlace)
    (hval : ∀ (j : Nat) t v, Tryz.f6.params[j]? = some t → args[j]? = some v → Value.okWide Tryz.prog W .any base t v)
    (hW : DataW.Whole enc Tryz.prog Tryz.f6.params.toList Rows.lexCountsSpec.vars false W args.toList ds gs before) (hk : Rows.uptoSmall H (ds ++ gs) = true) (hL : laidMetH Tryz.prog Rows.lexCountsUptoRow.laid W) (hShape : W.ShapedOpen Tryz.prog) :
    Calls Tryz.prog 6 args W fun e W' => ∃ v, e = .returned v ∧ Rows.lexCountsSpec.post enc Tryz.prog Tryz.f6 false true false false W args v W' := by
  have hW' := hW
  obtain ⟨p, q, hA0, hV, rfl, hfz, hnd⟩ := hW
  have hA : DataW.TrodAll enc Tryz.prog W 0 (fun _ => true) true Tryz.f6.params.toList args.toList ds p := hA0
  rw [Tryz.params6] at hA hval
  obtain ⟨v0, v1, d0, d1, p0, p1, rfl, rfl, rfl, h0, h1⟩ := trodAll_two hA
  obtain ⟨rfl, rfl⟩ := trodVars_none hV
  obtain ⟨s, rfl, rfl, rfl, ws⟩ := open_string Tryz.underlying9 (hval 0 9 v0 rfl rfl) h0
  obtain ⟨a0, len, cap, rfl⟩ := okWide_slice und54 (hval 1 54 v1 rfl rfl)
  have hok := hval 1 54 _ rfl rfl
  clear hA0
  simp only [List.append_nil] at hW' hk
  obtain ⟨hsl, hdl⟩ := string_bulk hk
  have hlt : ∀ x ∈ p1, x.block < W.heap.size := fun x hx => hW'.lt x (by simp [hx])
  have close : ∀ (ks : List Int), ks.length ≤ 100000000 → (∀ k ∈ ks, 0 ≤ k ∧ k ≤ 255) → Fe.Rel (fun k => k) [] (fun _ => False) W (.sl false (Fe.kI ks) ks.length) (.slice a0 len cap) →
      Calls Tryz.prog 6 #[.string s, .slice a0 len cap] W fun e W' => ∃ v, e = .returned v ∧ Rows.lexCountsSpec.post enc Tryz.prog Tryz.f6 false true false false W #[.string s, .slice a0 len cap] v W' := by
    intro ks h2 h3 hr
    refine (lexCounts_calls s _ ks hsl h2 h3 W (Fe.base_of_laid hL (Fe.max_of_shaped hShape)) hr).mono fun e W' ⟨he, hg⟩ => ?_
    subst he
    refine ⟨_, rfl, _, _, _, [], p1, [], hW', ?_, ?_, ?_, hg.frame _, fun h => by cases h⟩
    · exact trodAll_mk1 (shut_bool Tryz.underlying4 _)
    · exact trodAll_cons_mk (shut_string Tryz.underlying9 ws) (trodAll_mk1 (Below.trod laid_out (by kernel_rfl) (of_decide_eq_true (by kernel_rfl)) h1 hg hlt))
    · rfl
  obtain ⟨fuel, hf⟩ := id h1
  rcases open_ints und54 und36 cells36 hf with ⟨hcs, hx⟩ | ⟨a, len', cap', zs, hcs, _, hl, hm, hz, hx, hcell, hwz⟩
  · simp [Value.cells] at hcs
    obtain ⟨rfl, rfl, rfl⟩ := hcs
    exact close [] (by simp) (fun k hk => by simp at hk) (.slnil false)
  · simp [Value.cells] at hcs
    obtain ⟨rfl, rfl, rfl⟩ := hcs
    simp only [Prod.mk.injEq] at hx
    obtain ⟨rfl, _⟩ := hx
    simp only [if_true] at hz
    have hsp : a.spot = none := by
      simp only [Value.okWide, und54, Cell.okWide, Cell.ok] at hok
      exact hok.2.2.2.1
    obtain ⟨B, o, sp⟩ := a
    simp only at hsp
    subst hsp
    simp only [Rows.uptoBulk, lits_bulk] at hdl
    refine close (zs.take len) (by omega) (fun k hk => ?_) (kinds_rel hl hz hcell)
    have := hwz k (List.mem_of_mem_take hk)
    simp [Lit.wf, IntKind.min, IntKind.max, IntKind.bits, IntKind.signed] at this
    omega

/-- A world for the witness: the settled one, the tables holding what the program lays. -/
noncomputable def laidWorld (os : Os) : World :=
  let w0 := World.holding Tryz.prog os ⟨#[], #[], []⟩
  let put (h : Array Obj) (g : Nat) (cs : Array Value) : Array Obj := h.modify g fun
    | .cells _ t frozen => .cells cs t frozen
    | o => o
  { w0 with heap := put (put w0.heap 0 (Fe.utf8F.map fun (n : Nat) => Value.int .u8 (n : Int)).toArray) 1 (Fe.acceptL.map fun (n : Nat) => Value.int .u8 (n : Int)).toArray }
theorem laid_met (os : Os) : laidMet Tryz.prog Rows.lexCountsUptoRow.laid ((laidWorld os).forCall (fun _ _ => 0) ⟨#[], #[.string ⟨#[]⟩, .slice none 0 0], []⟩).memory :=
  laidMet_of_run' 8 (by kernel_rfl) (by kernel_rfl)
theorem lexCounts_reads (os : Os) {H : Type} (enc : TypeId × Value → H) : ∃ places, DataW.whole enc Tryz.prog ((laidWorld os).forCall (fun _ _ => 0) ⟨#[], #[.string ⟨#[]⟩, .slice none 0 0], []⟩).memory Tryz.f6.params.toList Rows.lexCountsSpec.vars false #[Value.string ⟨#[]⟩, .slice none 0 0].toList 8 = some ([.lit (.string []), .nil], [], places) :=
  ⟨[], by kernel_rfl⟩

set_option maxRecDepth 100000 in
theorem lexCounts_lifted (os : Os) (started : os.Started) (H : Type) (enc : TypeId × Value → H) (F : Stop.Interp) :
    ReturnsInHanded {} Tryz.checked os 6 .any ((Rows.OpenSpec.upto Rows.lexCountsSpec).preRow enc Tryz.prog Tryz.f6 Rows.lexCountsUptoRow.domain false Rows.lexCountsUptoRow.laid) (((Rows.OpenSpec.upto Rows.lexCountsSpec).at F).post enc Tryz.prog Tryz.f6 false true false false) := by
  obtain ⟨places, hx⟩ := lexCounts_reads os enc
  refine returnsInHanded_of_row (C := Tryz.checked) (s := Rows.OpenSpec.upto Rows.lexCountsSpec) own started (by kernel_rfl) Tryz.func6
    (witness_row_at (enc := enc) (C := Tryz.checked) false (laidWorld os) #[.string ⟨#[]⟩, .slice none 0 0] rfl (by kernel_rfl) (by kernel_rfl) (by kernel_rfl)
      (OpenSpec.preRow_of_cond 8 hx (by kernel_rfl) (fun k hk => by cases hk; kernel_rfl) (by kernel_rfl) (laid_met os))) ?_
  intro W base args ds gs before hval hW _ hcond _ hL hShape _
  exact lexCounts_contract H enc W base args ds gs before hval hW (hcond _ rfl) hL hShape

theorem lexCounts_saidUpto : Rows.LexCountsUptoSaid :=
  OpenClaim.holds_of_cond 6 Tryz.f6 rfl rfl rfl rfl rfl rfl rfl ⟨rfl, rfl, rfl, rfl, rfl⟩ rfl rfl rfl rfl rfl (by kernel_rfl) Tryz.func6 (by kernel_rfl)
    (of_decide_eq_true (by kernel_rfl)) (by unfold Func.isWrapper; first | (rw [if_pos (by decide +kernel)]; kernel_rfl) | (rw [if_neg (by decide +kernel)]; exact ⟨rfl, rfl⟩))
    (fun os started H enc _ F => by rw [OpenClaim.pre_eq_preRow]; exact lexCounts_lifted os started H enc F)

theorem lexCounts_plain (f : FuncId) (fn : Func) (hf : Tryz.pinned.checked.prog.funcNamed "glyph/glyphlaw04.LexCounts" = some f) (hfn : Tryz.pinned.checked.prog.funcs[f]? = some fn) :
    false = Tryz.pinned.checked.prog.looks [] ∧ ∀ (j : Nat) t, fn.params[j]? = some t → Tryz.pinned.checked.prog.wantsStandIn t = false := by
  obtain rfl : f = 6 := Option.some.inj ((show Tryz.prog.funcNamed "glyph/glyphlaw04.LexCounts" = some 6 by kernel_rfl).symm.trans hf) |>.symm
  obtain rfl : fn = Tryz.f6 := (Option.some.inj (Tryz.func6.symm.trans hfn)).symm
  refine ⟨by kernel_rfl, fun j t ht => ?_⟩
  rw [Tryz.params6] at ht
  rcases j with _ | _ | j
  · obtain rfl : 9 = t := by simpa using ht
    exact (show Tryz.prog.wantsStandIn 9 = false by kernel_rfl)
  · obtain rfl : 54 = t := by simpa using ht
    exact (show Tryz.prog.wantsStandIn 54 = false by kernel_rfl)
  · simp at ht

theorem lexCounts_card : Rows.LexCountsUptoCardSaid :=
  Claim7.holds_tied_plain_at .later [] _ _ _ _ lexCounts_saidUpto (fun _ h => by cases h) (by kernel_rfl) (fun _ h => by cases h) lexCountsUpto_row_tie rfl ⟨rfl, rfl⟩ (by kernel_rfl) rfl lexCounts_plain (by kernel_rfl)

end Go.Proofs.YtjgjfabmakkooaaGreatDoor
