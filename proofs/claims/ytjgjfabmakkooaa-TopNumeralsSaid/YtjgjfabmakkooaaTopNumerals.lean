/-
  TopNumerals: FOR EVERY NUMBER, right or not, the law returns true, and the number reads as it did. No condition.
-/
import Derived.Test.YtjgjfabmakkooaaRows
import Derived.WalkKit
import Derived.ProofKit
import Derived.OpenShut
import Derived.Below
import Derived.Test.YtjgjfabmakkooaaFkG
set_option maxRecDepth 100000
namespace Go.Proofs.Ytjgjfabmakkooaa
open Go.ChangeShapes Go.WideShapes Go.ChangeAt Go.RowKit Go.WideElems
open Go.ChangeMaps (open_string shut_string)

theorem ownT : ownKnob Try.prog.godebug = none := by kernel_rfl
theorem no_first : Try.prog.globalNamed "unicode/utf8.first" = none := by kernel_rfl
theorem no_accept : Try.prog.globalNamed "unicode/utf8.acceptRanges" = none := by kernel_rfl
theorem no_max : Try.prog.globalNamed "internal/bytealg.MaxLen" = none := by kernel_rfl
theorem base_any (W : World) : Fe.Base Try.prog (fun _ => False) W := by
  refine ⟨fun g ns h => ?_, fun g h => ?_⟩
  · unfold Fe.tabOf at h
    rw [no_first, no_accept] at h
    simp at h
  · rw [no_max] at h
    cases h

/-- What the walk gives. -/
theorem topNumerals_calls (b : Bool) (v1 v2 : Value) (n1 n2 : List Nat) (h1 : Fe.Lm n1) (h2 : Fe.Lm n2) (l1 : n1.length ≤ 9223372036854775807) (l2 : n2.length ≤ 9223372036854775807) (W : World)
    (r1 : Fe.Rel (fun k => k) [] (fun _ => False) W (Fe.nsl false n1) v1) (r2 : Fe.Rel (fun k => k) [] (fun _ => False) W (Fe.nsl false n2) v2) :
    Calls Try.prog 4 #[.agg #[.bool b, v1, v2]] W fun e W' => e = .returned (.bool true) ∧ Below W.heap.size W W' := by
  obtain ⟨_, hg⟩ := Fe.good4 b false false n1 n2 h1 h2 l1 l2
  refine (hg (fun _ => False) W #[.agg #[.bool b, v1, v2]] (fun B hB => hB.elim) (base_any W) rfl (fun i hi => ?_)).mono ?_
  · have : i = 0 := by simpa using hi
    subst this
    refine .agg _ _ rfl fun j hj => ?_
    have : j = 0 ∨ j = 1 ∨ j = 2 := by simp at hj; omega
    rcases this with rfl | rfl | rfl
    · exact .bool b
    · exact r1
    · exact r2
  · rintro e W' ⟨c, rfl, hb, _, ρ, _, _, hrel⟩
    cases hrel
    exact ⟨rfl, hb⟩

/-- A slice of limbs that reads so, as one of ours. -/
theorem limbs_rel {W : World} {B o len cap : Nat} {zs : List Int} (hl : len ≤ cap) (hz : zs.length = cap) (hcell : ∀ i, i < zs.length → W.cell? ((⟨B, o, none⟩ : Addr).add i) = some (.int .u32 (zs.getD i 0))) (hw : ∀ n ∈ zs, (Lit.int .u32 n).wf = true) :
    ∃ ns : List Nat, Fe.Lm ns ∧ ns.length = len ∧ Fe.Rel (fun k => k) [] (fun _ => False) W (Fe.nsl false ns) (.slice (some ⟨B, o, none⟩) len cap) := by
  have hb : ∀ n ∈ zs, 0 ≤ n ∧ n < 4294967296 := fun n hn => by
    have := hw n hn
    simp [Lit.wf, IntKind.min, IntKind.max, IntKind.bits, IntKind.signed] at this
    omega
  refine ⟨(zs.take len).map Int.toNat, fun x hx => ?_, by simp; omega, ?_⟩
  · obtain ⟨n, hn, rfl⟩ := List.mem_map.1 hx
    have := hb n (List.mem_of_mem_take hn)
    omega
  · have hlen : ((zs.take len).map Int.toNat).length = len := by simp; omega
    have hnl : (Fe.nl ((zs.take len).map Int.toNat)).length = len := by rw [Fe.nl, List.length_map, hlen]
    rw [Fe.nsl, hlen]
    refine .sl false _ len B o cap (fun i => .int .u32 (zs.getD i 0)) (fun i hi => ?_) (fun i hi => ?_) (fun _ h => h) hl (fun h => by cases h)
    · rw [hnl] at hi
      have := hcell i (by omega)
      rwa [add_plain] at this
    · have hi' : i < len := by rw [hnl] at hi; exact hi
      have e1 : (Fe.nl ((zs.take len).map Int.toNat))[i] = .int .u32 (zs.getD i 0) := by
        have hzi : i < zs.length := by omega
        have := hb zs[i] (List.getElem_mem hzi)
        simp [Fe.nl, Fe.limb, List.getD, hzi]
        omega
      rw [e1]
      exact .int _ _

theorem spot_none {P : Program} {W : World} {r : Reach} {base : Nat} {u : TypeId} {a : Addr} {len cap : Nat} (h : Cell.okWide P W r base u (.slice (some a) len cap)) : a.spot = none := by
  unfold Cell.okWide at h
  split at h <;> try (rename_i hv; cases hv; done)
  unfold Cell.ok at h
  split at h <;> first | (rename_i hv; cases hv; done) | exact h.elim | skip
  rename_i hu hv
  cases hv
  exact h.2.2.2.1

/-- One of a number's two rows. -/
theorem row_rel {H : Type} {enc : TypeId × Value → H} {W : World} {n : Nat} {c : Value} {x : DataW H × List MemPlace} (h : DataW.trod enc Try.prog W 0 (fun _ => true) true n 36 [c] = some x)
    (hs : ∀ a len cap, c = .slice (some a) len cap → a.spot = none) :
    ∃ ns : List Nat, Fe.Lm ns ∧ ns.length ≤ 9223372036854775807 ∧ Fe.Rel (fun k => k) [] (fun _ => False) W (Fe.nsl false ns) c := by
  rcases open_ints Try.underlying36 Try.underlying56 (by kernel_rfl) h with ⟨hc, _⟩ | ⟨a, len, cap, zs, hc, _, hl, hm, hz, _, hcell, hw⟩
  · cases hc
    exact ⟨[], fun x hx => (List.not_mem_nil hx).elim, by decide, .slnil false⟩
  · cases hc
    have hsp := hs a len cap rfl
    obtain ⟨B, o, sp⟩ := a
    simp only at hsp
    subst hsp
    simp only [if_true] at hz
    obtain ⟨ns, h1, h2, h3⟩ := limbs_rel hl hz hcell hw
    refine ⟨ns, h1, ?_, h3⟩
    have : maxLen ≤ 9223372036854775807 := by decide
    omega

theorem list3 {α : Type} : ∀ {l : List α}, l.length = 3 → ∃ a b c, l = [a, b, c]
  | [a, b, c], _ => ⟨a, b, c, rfl⟩
theorem arr3 {cs : Array Value} (h : cs.size = 3) : ∃ a b c, cs = #[a, b, c] := by
  obtain ⟨l⟩ := cs
  obtain ⟨a, b, c, rfl⟩ := list3 (l := l) (by simpa using h)
  exact ⟨a, b, c, rfl⟩
/-- An input: a number that is none. -/
def inT : Input := ⟨#[], #[.agg #[.bool false, .slice none 0 0, .slice none 0 0]], []⟩
theorem wit1 (os : Os) : (World.plainHolding Try.checked.prog os inT).variablesB Try.checked.prog = true := by kernel_rfl
theorem wit2 (os : Os) : ((World.plainHolding Try.checked.prog os inT).heap.toList.drop Try.checked.prog.globals.size).take ((begin Try.checked.prog (fun _ _ => 0) default).world.heap.size - Try.checked.prog.globals.size) =
    (begin Try.checked.prog (fun _ _ => 0) default).world.heap.toList.drop Try.checked.prog.globals.size := by kernel_rfl
theorem wit3 (os : Os) : Input.okWideB Try.checked.prog (World.plainHolding Try.checked.prog os inT) 4 ⟨#[], inT.args, []⟩ = true := by kernel_rfl
theorem wit4 (os : Os) (H : Type) (enc : TypeId × Value → H) : Rows.topNumeralsSpec.preB enc Try.checked.prog Try.f4 Rows.topNumeralsRow.domain false (World.plainHolding Try.checked.prog os inT).memory inT.args 8 = true := by kernel_rfl
theorem wit5 (os : Os) (H : Type) (enc : TypeId × Value → H) : Rows.topNumeralsSpec.sizedB enc Try.checked.prog Try.f4 false (World.plainHolding Try.checked.prog os inT).memory inT.args 8 = true := by kernel_rfl

theorem topNumerals_lifted (os : Os) (started : os.Started) (H : Type) (enc : TypeId × Value → H) :
    ReturnsInHanded {} Try.checked os 4 .any (Rows.topNumeralsSpec.pre6 enc Try.prog Try.f4 Rows.topNumeralsRow.domain false) (Rows.topNumeralsSpec.post enc Try.prog Try.f4 false true false false) := by
  refine returnsInHanded_of_change (C := Try.checked) ownT started (by kernel_rfl) Try.func4
    (ChangeSpec.witness6 (enc := enc) (C := Try.checked) false inT 8 (wit1 os) (wit2 os) (wit3 os) (wit4 os H enc) (wit5 os H enc)) ?_
  intro W base args ds gs before hval0 hW _ _
  have hval : ∀ (j : Nat) t v, Try.f4.params[j]? = some t → args[j]? = some v → Value.okWide Try.prog W .any base t v := hval0
  have hW' := hW
  obtain ⟨p, q, hA0, hV0, rfl, hfz, hnd⟩ := hW
  have hA : DataW.TrodAll enc Try.prog W 0 (fun _ => true) true Try.f4.params.toList args.toList ds p := hA0
  rw [Try.params4] at hA hval
  obtain ⟨v0, d0, rfl, rfl, h0⟩ := trodAll_one hA
  obtain ⟨rfl, rfl⟩ := trodVars_none hV0
  have hok := hval 0 38 v0 rfl rfl
  have hlt : ∀ x ∈ p, x.block < W.heap.size := fun x hx => hW'.lt x (by simp [hx])
  clear hA0 hval0 hA
  simp only [List.append_nil] at hW'
  unfold Value.okWide at hok
  rw [Try.underlying38] at hok
  obtain ⟨cs, rfl, hsz, ts, _, _, hcells⟩ := hok
  have hlen : cs.size = 3 := hsz.trans (by kernel_rfl)
  obtain ⟨c0, c1, c2, rfl⟩ := arr3 hlen
  have hspot : ∀ (i : Nat) (a : Addr) (len cap : Nat), (#[c0, c1, c2] : Array Value)[i]? = some (Value.slice (some a) len cap) → a.spot = none := fun i a len cap hi => by
    obtain ⟨u, _, hu⟩ := hcells i _ hi
    exact spot_none hu
  obtain ⟨fuel, hf⟩ := id h0
  obtain ⟨xs, n, _, _, _, hxl, hfs⟩ := DataW.trod_struct Try.underlying38 hf
  have hxl3 : xs.length = 3 := hxl
  obtain ⟨x0, x1, x2, rfl⟩ := list3 hxl3
  have t0 := hfs 0 _ rfl
  have t1 := hfs 1 _ rfl
  have t2 := hfs 2 _ rfl
  have k4 : Try.prog.cellsOf 4 = 1 := by kernel_rfl
  have k36 : Try.prog.cellsOf 36 = 1 := by kernel_rfl
  simp only [Value.cells, k4, k36] at t0 t1 t2
  obtain ⟨b, hb, _⟩ := DataW.trod_bool Try.underlying4 t0
  cases hb
  obtain ⟨n1, a1, a2, a3⟩ := row_rel t1 (fun a len cap hc => hspot 1 a len cap (by rw [← hc]; rfl))
  obtain ⟨n2, b1, b2, b3⟩ := row_rel t2 (fun a len cap hc => hspot 2 a len cap (by rw [← hc]; rfl))
  refine (topNumerals_calls b c1 c2 n1 n2 a1 b1 a2 b2 W a3 b3).mono fun e W' ⟨he, hB⟩ => ?_
  subst he
  refine ⟨_, rfl, _, _, _, [], p, [], hW', ?_, ?_, ?_, hB.frame _, fun h => by cases h⟩
  · exact trodAll_mk1 (shut_bool Try.underlying4 _)
  · exact trodAll_mk1 (Below.trod (by kernel_rfl) (by kernel_rfl) (of_decide_eq_true (by kernel_rfl)) h0 hB hlt)
  · rfl

theorem topNumerals_holds : Rows.TopNumeralsSaid :=
  OpenClaim.holds_of_wide 4 Try.f4 rfl rfl rfl rfl rfl rfl rfl ⟨rfl, rfl, rfl, rfl, rfl⟩ rfl rfl rfl rfl rfl (by kernel_rfl) Try.func4 (by kernel_rfl)
    (of_decide_eq_true (by kernel_rfl)) (by unfold Func.isWrapper; first | (rw [if_pos (by decide +kernel)]; kernel_rfl) | (rw [if_neg (by decide +kernel)]; exact ⟨rfl, rfl⟩))
    (fun os started H enc _ => topNumerals_lifted os started H enc)

end Go.Proofs.Ytjgjfabmakkooaa
