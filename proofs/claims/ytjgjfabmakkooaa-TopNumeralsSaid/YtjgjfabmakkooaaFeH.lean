/-
  Operations of the evaluator, sound one by one; the stripping of codes. No condition.
-/
import Derived.Test.YtjgjfabmakkooaaFeA
import Derived.Laws.Cover4
import Derived.Laws.BytesString
import Derived.Laws.IdiomStrings
set_option linter.unusedSimpArgs false
set_option linter.unusedVariables false
namespace Fe
open Go Go.RowKit

section
variable {P : Program} {Out : Nat → Prop} {ρ : Nat → Nat} {H : Heap} {Bad : Nat → Prop} {w : World} {e : Env} {a : Act} {o : Oper}

/-- The cells of a slice in memory. -/
theorem readSl_cells {v : V} {c : Value} {lim esz n : Nat} {cs : List V} (hI : HInv P Out ρ H w) (hc : Rel ρ H (BadIn Out ρ H) w v c) (h : readSl lim H esz v = some (n, cs)) :
    cs.length = n * esz ∧ ∃ (ad : Option Addr) (cap : Nat) (f : Nat → Value), c = .slice ad n cap ∧ (∀ i (hi : i < cs.length), Rel ρ H (BadIn Out ρ H) w cs[i] (f i)) ∧
      ((ad = none ∧ n = 0 ∧ cap = 0) ∨ ∃ B off, ad = some ⟨B, off, none⟩ ∧ ∀ i, i < cs.length → w.cell? ⟨B, off + i, none⟩ = some (f i)) := by
  unfold readSl at h
  cases hc with
  | sl ex cs n B o' cap f h1 h2 h3 h4 h5 =>
    simp only at h
    split at h
    · rename_i hl
      cases h
      exact ⟨hl, _, _, f, rfl, h2, .inr ⟨B, o', rfl, h1⟩⟩
    · cases h
  | slnil ex =>
    simp only at h
    split at h
    · rename_i hl
      cases h
      exact ⟨hl, _, _, fun _ => undef, rfl, fun i hi => by simp at hi, .inl ⟨rfl, rfl, rfl⟩⟩
    · cases h
  | view k g off n B cap hk hg hB hle =>
    simp only at h
    split at h
    · split at h
      · rename_i g' e' own cs' hget
        split at h
        · rename_i hcond
          obtain ⟨rfl, hle'⟩ := hcond
          cases h
          obtain ⟨arr, T, h4, h5, h6⟩ := hI.cells k _ _ _ _ hget
          obtain ⟨rfl, _⟩ := hB (by simp [genOf, hget, HObj.gen])
          have hlen : ((cs'.drop off).take (n * esz)).length = n * esz := by simp; omega
          refine ⟨hlen, _, _, fun i => arr.getD (off + i) undef, rfl, fun i hi => ?_, .inr ⟨ρ k, off, rfl, fun i hi => ?_⟩⟩
          · have := h6 (off + i) (by omega)
            simpa using this
          · simp only [World.cell?,h4]
            simp [Array.getD, show off + i < arr.size by omega]
        · cases h
      · cases h
    · cases h
  | _ => cases h

theorem run_loadCells_at (B off n : Nat) (f : Nat → Value) (h : ∀ i, i < n → w.cell? ⟨B, off + i, none⟩ = some (f i)) :
    (loadCells ⟨B, off, none⟩ n).run P w = .ok ((Array.range n).map f) w := by
  unfold loadCells
  rw [run_loadCellsFrom B off n 0 #[] f (fun j hj => by simpa using h j hj)]
  simp

theorem bytesOf_inv : ∀ {cs : List V} {l : List UInt8}, bytesOf cs = some l → ∃ ns : List Int, cs = ns.map (V.int .u8) ∧ l = ns.map fun n => UInt8.ofNat n.toNat
  | [], l, h => by cases h; exact ⟨[], rfl, rfl⟩
  | v :: r, l, h => by
    unfold bytesOf at h
    split at h
    · cases h
      rename_i heq; cases heq
    · rename_i n r' heq
      cases heq
      simp only [Option.map_eq_some_iff] at h
      obtain ⟨l', hl', rfl⟩ := h
      obtain ⟨ns, rfl, rfl⟩ := bytesOf_inv hl'
      exact ⟨n :: ns, rfl, rfl⟩
    · cases h

theorem runesOf_inv : ∀ {cs : List V} {l : List UInt8}, runesOf cs = some l → ∃ ns : List Int, cs = ns.map (V.int .i32) ∧ l = ns.flatMap encL
  | [], l, h => by cases h; exact ⟨[], rfl, rfl⟩
  | v :: r, l, h => by
    unfold runesOf at h
    split at h
    · cases h
      rename_i heq; cases heq
    · rename_i n r' heq
      cases heq
      simp only [Option.map_eq_some_iff] at h
      obtain ⟨l', hl', rfl⟩ := h
      obtain ⟨ns, rfl, rfl⟩ := runesOf_inv hl'
      exact ⟨n :: ns, rfl, rfl⟩
    · cases h

theorem ints_of_rel {k : IntKind} {ns : List Int} {f : Nat → Value} (h : ∀ i (hi : i < (ns.map (V.int k)).length), Rel ρ H Bad w (ns.map (V.int k))[i] (f i)) :
    (Array.range ns.length).map f = (ns.map (Value.int k)).toArray := by
  apply Array.ext'
  simp only [Array.toList_map,Array.toList_range]
  apply List.ext_getElem
  · simp
  · intro i h1 h2
    simp only [List.length_map,List.length_range] at h1
    have := h i (by simpa using h1)
    simp only [List.getElem_map] at this
    simp [this.int_inv]

theorem bytes_fold (ns : List Int) (s : ByteArray) : (ns.foldl (fun r n => r.push (UInt8.ofNat n.toNat)) s).data.toList = s.data.toList ++ ns.map fun n => UInt8.ofNat n.toNat := by
  induction ns generalizing s with
  | nil => simp
  | cons n ns ih => simp [ih]

theorem runes_fold (ns : List Int) (s : ByteArray) : (ns.foldl (fun r n => r ++ Utf8.encode n) s).data.toList = s.data.toList ++ ns.flatMap encL := by
  induction ns generalizing s with
  | nil => simp
  | cons n ns ih => simp [ih, encL]

theorem get_drop (s : ByteArray) (i k : Nat) : s.get! (i + k) = (s.data.toList.drop i).getD k 0 := by
  show s.data[i + k]! = _
  rw [List.getD_eq_getElem?_getD, List.getElem?_drop, Array.getElem?_toList]
  by_cases h : i + k < s.data.size
  · rw [getElem!_pos s.data (i + k) h, Array.getElem?_eq_getElem h]; rfl
  · rw [getElem!_neg s.data (i + k) h, Array.getElem?_eq_none (by omega)]; rfl

theorem decode_eq (s : ByteArray) (i : Nat) : Utf8.decode s i = decL (s.data.toList.drop i) := by
  have hc : ∀ k, decide (i + k < s.size) = decide (k < (s.data.toList.drop i).length) := by
    intro k
    have : s.data.size = s.size := rfl
    simp only [List.length_drop,Array.length_toList,decide_eq_decide]
    omega
  unfold Utf8.decode decL
  simp only [get_drop,hc]

theorem runesFrom_eq (s : ByteArray) : ∀ (b i : Nat) (acc : Array Value), (Conv.runesFrom s b i acc).toList = acc.toList ++ (runesL b (s.data.toList.drop i)).map fun (r : Nat) => Value.int .i32 r
  | 0, i, acc => by simp [Conv.runesFrom, runesL]
  | b + 1, i, acc => by
    have hsz : s.data.toList.length = s.size := by simp
    unfold Conv.runesFrom runesL
    by_cases h : i < s.size
    · rw [if_pos h]
      have h' : i < s.data.toList.length := by omega
      rw [List.drop_eq_getElem_cons h']
      simp only
      rw [← List.drop_eq_getElem_cons h', runesFrom_eq s b, decode_eq]
      simp [List.drop_drop]
    · rw [if_neg h, List.drop_of_length_le (by omega)]
      simp

theorem ckOf_inv {s d : TypeId} {k : CK} (h : ckOf P s d = some k) :
    match k with
    | .int kk => ∃ k0, P.underlying s = some (.int k0) ∧ P.underlying d = some (.int kk)
    | .runeStr => ∃ k0, P.underlying s = some (.int k0) ∧ P.underlying d = some .string
    | .bytesStr => ∃ el, P.underlying s = some (.slice el) ∧ P.underlying d = some .string ∧ P.underlying el = some (.int .u8)
    | .runesStr => ∃ el, P.underlying s = some (.slice el) ∧ P.underlying d = some .string ∧ P.underlying el = some (.int .i32)
    | .strBytes => ∃ el, P.underlying s = some .string ∧ P.underlying d = some (.slice el) ∧ P.underlying el = some (.int .u8)
    | .strRunes => ∃ el, P.underlying s = some .string ∧ P.underlying d = some (.slice el) ∧ P.underlying el = some (.int .i32) := by
  simp only [ckOf,Option.bind_eq_bind,Option.bind_eq_some_iff] at h
  obtain ⟨u1, hu1, u2, hu2, h⟩ := h
  split at h
  · cases h; exact ⟨_, hu1, hu2⟩
  · cases h; exact ⟨_, hu1, hu2⟩
  · simp only [Option.bind_eq_some_iff] at h
    obtain ⟨u3, hu3, h⟩ := h
    split at h
    · cases h; exact ⟨_, hu1, hu2, hu3⟩
    · cases h; exact ⟨_, hu1, hu2, hu3⟩
    · cases h
  · simp only [Option.bind_eq_some_iff] at h
    obtain ⟨u3, hu3, h⟩ := h
    split at h
    · cases h; exact ⟨_, hu1, hu2, hu3⟩
    · cases h; exact ⟨_, hu1, hu2, hu3⟩
    · cases h
  · cases h

theorem does_conv {s d : TypeId} {k : CK} {x : Operand} {cx : X} {r : V} {lim : Nat} (ho : o.op = .convert s d x) (hk : ckOf P s d = some k) (hx : stripX P x = some cx)
    (hI : HInv P Out ρ H w) (hE : ERel Out ρ H w e a) (h : convV lim H k (cx.ev e) = some r) : Does P a o Out ρ H w r H := by
  have hr := stripX_rel hI hE hx
  have hk := ckOf_inv hk
  have hex : ∀ c w', (convert s d (a.eval x)).run P w = .ok c w' → (execOp a.eval o).run P w = .ok (.value c) w' := by
    intro c w' hc
    simp [execOp, ho, hc]
  cases k with
  | int kk =>
    obtain ⟨k0, hu1, hu2⟩ := hk
    cases hv : cx.ev e with
    | int k1 n =>
      rw [hv] at h hr
      cases h
      exact Does.pure hI (hex _ _ (by simp [convert, run_und hu1, run_und hu2, hr.int_inv, Conv.intToInt])) (.int _ _)
    | _ => rw [hv] at h; cases h
  | runeStr =>
    obtain ⟨k0, hu1, hu2⟩ := hk
    cases hv : cx.ev e with
    | int k1 n =>
      rw [hv] at h hr
      cases h
      exact Does.pure hI (hex _ _ (by simp [convert, run_und hu1, run_und hu2, hr.int_inv, Conv.intToString])) (.str _)
    | _ => rw [hv] at h; cases h
  | bytesStr =>
    obtain ⟨el, hu1, hu2, hu3⟩ := hk
    simp only [convV,Option.bind_eq_some_iff,Option.map_eq_some_iff] at h
    obtain ⟨⟨n, cs⟩, h1, l, h2, rfl⟩ := h
    obtain ⟨hl, ad, cap, f, hc, hrel, hm⟩ := readSl_cells hI hr h1
    obtain ⟨ns, rfl, rfl⟩ := bytesOf_inv h2
    simp only [List.length_map,Nat.mul_one] at hl
    rcases hm with ⟨rfl, rfl, rfl⟩ | ⟨B, off, rfl, hcell⟩
    · have : ns = [] := List.length_eq_zero_iff.1 hl
      subst this
      exact Does.pure hI (hex (.string .empty) _ (by rw [hc, run_convert_bytes_string w s d el _ _ _ hu1 hu3 hu2]; simp [Conv.bytesToString])) (.str ByteArray.empty)
    · subst hl
      have hload : (loadCells ⟨B, off, none⟩ ns.length).run P w = .ok (ns.map (Value.int .u8)).toArray w := by
        rw [run_loadCells_at B off ns.length f (fun i hi => hcell i (by simpa using hi)), ints_of_rel hrel]
      refine Does.pure hI (hex _ _ (by rw [hc, run_convert_bytes_string w s d el _ _ _ hu1 hu3 hu2, run_bytesToString w _ _ _ ns hload])) ?_
      have := bytes_fold ns ByteArray.empty
      simp only [show ByteArray.empty.data.toList = [] from rfl,List.nil_append] at this
      rw [← this]
      exact .str _
  | runesStr =>
    obtain ⟨el, hu1, hu2, hu3⟩ := hk
    simp only [convV,Option.bind_eq_some_iff,Option.map_eq_some_iff] at h
    obtain ⟨⟨n, cs⟩, h1, l, h2, rfl⟩ := h
    obtain ⟨hl, ad, cap, f, hc, hrel, hm⟩ := readSl_cells hI hr h1
    obtain ⟨ns, rfl, rfl⟩ := runesOf_inv h2
    simp only [List.length_map,Nat.mul_one] at hl
    rcases hm with ⟨rfl, rfl, rfl⟩ | ⟨B, off, rfl, hcell⟩
    · have : ns = [] := List.length_eq_zero_iff.1 hl
      subst this
      exact Does.pure hI (hex (.string .empty) _ (by rw [hc, run_convert_runes_string w s d el _ _ _ hu1 hu3 hu2]; simp [Conv.runesToString])) (.str ByteArray.empty)
    · subst hl
      have hload : (loadCells ⟨B, off, none⟩ ns.length).run P w = .ok (ns.map (Value.int .i32)).toArray w := by
        rw [run_loadCells_at B off ns.length f (fun i hi => hcell i (by simpa using hi)), ints_of_rel hrel]
      refine Does.pure hI (hex _ _ (by rw [hc, run_convert_runes_string w s d el _ _ _ hu1 hu3 hu2, run_runesToString w _ _ _ ns hload])) ?_
      have := runes_fold ns ByteArray.empty
      simp only [show ByteArray.empty.data.toList = [] from rfl,List.nil_append] at this
      rw [← this]
      exact .str _
  | strBytes =>
    obtain ⟨el, hu1, hu2, hu3⟩ := hk
    cases hv : cx.ev e with
    | str l =>
      rw [hv] at h hr
      cases h
      obtain ⟨ba, rfl, hc⟩ := hr.str_inv
      have hw : ∀ x : Obj, (w.drew.alloc x).heap = w.heap.push x := fun _ => rfl
      refine ⟨ρ, w.drew.alloc _, Tr.grow (w' := w.drew.alloc _) hI _ rfl rfl rfl (hw _), HInv.grow (w' := w.drew.alloc _) hI _ rfl rfl rfl (hw _), .inl ⟨_, hex _ _ (by rw [hc]; exact run_bytes_of_string w s d el ba hu1 hu2 hu3), ?_⟩⟩
      have hsz : (ba.data.toList.map fun b => V.int .u8 b.toNat).length = ba.size := by simp
      have hlen : ba.data.toList.length = ba.size := by simp
      rw [hlen]
      refine .sl false _ _ w.heap.size 0 _ (fun i => Value.int .u8 ((ba.data.toList.getD i 0).toNat)) (fun i hi => ?_) (fun i hi => ?_) (fun _ => hI.notOut _ (Nat.le_refl _)) (grownCap_ge _ _ _ _) (by simp)
      · rw [hsz] at hi
        simp only [World.cell?,hw]
        simp only [Array.getElem?_push_size,bytesRow]
        have hi' : i < ba.data.size := hi
        rw [if_neg (by simp), Nat.zero_add, Array.getElem?_append_left (by simpa using hi')]
        simp [Array.getElem?_eq_getElem hi']
      · rw [hsz] at hi
        have hi' : i < ba.data.size := hi
        simp only [List.getElem_map]
        have : (ba.data.toList.getD i 0) = ba.data.toList[i]'(by simpa using hi') := by simp [List.getD, Array.getElem?_eq_getElem hi']
        rw [this]
        exact .int _ _
    | _ => rw [hv] at h; cases h
  | strRunes =>
    obtain ⟨el, hu1, hu2, hu3⟩ := hk
    cases hv : cx.ev e with
    | str l =>
      rw [hv] at h hr
      cases h
      obtain ⟨ba, rfl, hc⟩ := hr.str_inv
      have hw : ∀ x : Obj, (w.drew.alloc x).heap = w.heap.push x := fun _ => rfl
      have hrun : (convert s d (.string ba)).run P w = .ok (.slice (some ⟨w.heap.size, 0, none⟩) (Conv.runesFrom ba ba.size 0 #[]).size (grownCap w (Conv.runesFrom ba ba.size 0 #[]).size 0 el))
          (w.drew.alloc (.cells (Conv.runesFrom ba ba.size 0 #[] ++ Array.replicate (grownCap w (Conv.runesFrom ba ba.size 0 #[]).size 0 el - (Conv.runesFrom ba ba.size 0 #[]).size) (.int .i32 0)) el)) := by
        simp [convert, run_und hu1, run_und hu2, run_und hu3, Conv.stringToRunes, Question.forced, newRow, grownCap]
      have hrf := runesFrom_eq ba ba.size 0 #[]
      simp only [List.drop_zero,List.nil_append] at hrf
      have hlen0 : ba.data.toList.length = ba.size := by simp
      rw [hlen0]
      have hsz : (Conv.runesFrom ba ba.size 0 #[]).size = (runesL ba.size ba.data.toList).length := by
        rw [← Array.length_toList, hrf]; simp
      refine ⟨ρ, w.drew.alloc _, Tr.grow (w' := w.drew.alloc _) hI _ rfl rfl rfl (hw _), HInv.grow (w' := w.drew.alloc _) hI _ rfl rfl rfl (hw _), .inl ⟨_, hex _ _ (by rw [hc]; exact hrun), ?_⟩⟩
      rw [hsz]
      refine .sl false _ _ w.heap.size 0 _ (fun i => Value.int .i32 ((runesL ba.size ba.data.toList).getD i 0 : Nat)) (fun i hi => ?_) (fun i hi => ?_) (fun _ => hI.notOut _ (Nat.le_refl _)) (grownCap_ge _ _ _ _) (by simp)
      · simp only [List.length_map] at hi
        simp only [World.cell?,hw,Array.getElem?_push_size]
        rw [if_neg (by simp), Nat.zero_add, Array.getElem?_append_left (by omega), ← Array.getElem?_toList, hrf]
        simp [hi]
      · simp only [List.length_map] at hi
        simp only [List.getElem_map]
        have : (runesL ba.size ba.data.toList).getD i 0 = (runesL ba.size ba.data.toList)[i] := by simp [List.getD, hi]
        rw [this]
        exact .int _ _
    | _ => rw [hv] at h; cases h

end
end Fe
namespace Fe
open Go Go.RowKit

section
variable {P : Program} {Out : Nat → Prop} {ρ : Nat → Nat} {H : Heap} {Bad : Nat → Prop} {w : World} {e : Env} {a : Act} {o : Oper}

theorem mapM_stripX {l : List Operand} {cl : List X} (hI : HInv P Out ρ H w) (h : l.mapM (stripX P) = some cl) (hE : ERel Out ρ H w e a) :
    (l.map a.eval).length = (cl.map (·.ev e)).length ∧ ∀ i (h : i < (cl.map (·.ev e)).length), Rel ρ H (BadIn Out ρ H) w (cl.map (·.ev e))[i] ((l.map a.eval).toArray.getD i undef) := by
  obtain ⟨h1, h2⟩ := mapM_some_get h
  refine ⟨by simp [h1], fun i hi => ?_⟩
  simp only [List.length_map] at hi
  have := stripX_rel hI hE (h2 i hi (by omega))
  simp only [List.getElem_map]
  have hg : (List.map a.eval l).toArray.getD i undef = a.eval l[i] := by simp [Array.getD, show i < l.length by omega]
  rw [hg]; exact this

theorem does_mkfn {f : FuncId} {fi ca : Array Operand} {cf cc : List X} (ho : o.op = .makeFunc (.func f) fi ca) (hf : fi.toList.mapM (stripX P) = some cf) (hc : ca.toList.mapM (stripX P) = some cc)
    (hI : HInv P Out ρ H w) (hE : ERel Out ρ H w e a) : Does P a o Out ρ H w (.fn f (cf.map (·.ev e)) (cc.map (·.ev e))) H := by
  obtain ⟨h1, h2⟩ := mapM_stripX hI hf hE
  obtain ⟨h3, h4⟩ := mapM_stripX hI hc hE
  have e1 : fi.map a.eval = (fi.toList.map a.eval).toArray := by apply Array.ext'; simp
  have e2 : ca.map a.eval = (ca.toList.map a.eval).toArray := by apply Array.ext'; simp
  refine Does.pure hI (c := .func (.func f) (fi.map a.eval) (ca.map a.eval)) (by simp [execOp, ho, Instr.makeFunc]) ?_
  rw [e1, e2]
  exact .fn _ _ _ _ _ (by simpa using h1) (by simpa using h3) h2 h4

theorem does_faddr {s : TypeId} {fs : Array Field} {f : Field} {j : Nat} {i : TypeInfo} {x : Operand} {cx : X} {v : V} (ho : o.op = .fieldAddr s x j) (hs : P.underlying s = some (.struct fs))
    (hf : fs[j]? = some f) (hi : P.info? f.type = some i) (hz : i.size ≠ 0) (hx : stripX P x = some cx) (hI : HInv P Out ρ H w) (hE : ERel Out ρ H w e a)
    (hv : (match cx.ev e with | .cell k g off => some (V.cell k g (off + f.offset), H) | .rptr cs off => some (V.rptr cs (off + f.offset), H) | _ => none) = some (v, H)) : Does P a o Out ρ H w v H := by
  have h := stripX_rel hI hE hx
  have hadd : ∀ B off, (Addr.add ⟨B, off, none⟩ f.offset) = ⟨B, off + f.offset, none⟩ := by intro B off; unfold Addr.add; split <;> simp_all
  have hrun : ∀ B off, a.eval x = .pointer (some ⟨B, off, none⟩) → (execOp a.eval o).run P w = .ok (.value (.pointer (some ⟨B, off + f.offset, none⟩))) w := by
    intro B off hp
    simp [execOp, ho, Instr.fieldAt, run_und hs, hf, hp, Instr.sureAddr, fieldPlace, run_size hi, hz, hadd]
  cases hc : cx.ev e with
  | cell k g off =>
    rw [hc] at hv h
    cases hv
    cases hcx : a.eval x with
    | pointer p => ?_
    | _ => rw [hcx] at h; cases h
    rw [hcx] at h
    cases h with
    | cell _ _ _ B h1 h2 h3 => exact Does.pure hI (hrun _ _ hcx) (.cell k g _ B h1 h2 h3)
  | rptr cs off =>
    rw [hc] at hv h
    cases hv
    cases hcx : a.eval x with
    | pointer p => ?_
    | _ => rw [hcx] at h; cases h
    rw [hcx] at h
    cases h with
    | rptr _ _ B o' f' h1 h2 h3 =>
      refine Does.pure hI (hrun _ _ hcx) ?_
      rw [Nat.add_assoc]
      exact .rptr cs _ B o' f' h1 h2 h3
  | _ => rw [hc] at hv; cases hv

theorem run_part {t : TypeId} {d : TypeDesc} {i : TypeInfo} (hd : P.underlying t = some d) (hi : P.info? t = some i) (arr : Array Value) (off : Nat) (h : isAggD d = false → off < arr.size) :
    (part t arr off).run P w = .ok (if isAggD d = true then .agg (arr.extract off (off + i.size)) else arr.getD off undef) w := by
  simp only [part,Sem.run_bind,run_isAgg hd,Result.andThen_ok]
  cases hagg : isAggD d with
  | true => simp [run_size hi]
  | false =>
    have := h hagg
    simp [this, Array.getD]

theorem does_field {s : TypeId} {fs : Array Field} {f : Field} {j : Nat} {i : TypeInfo} {d : TypeDesc} {x : Operand} {cx : X} {v : V} {cs : List V} (ho : o.op = .field s x j) (hs : P.underlying s = some (.struct fs))
    (hf : fs[j]? = some f) (hi : P.info? f.type = some i) (hd : P.underlying f.type = some d) (hx : stripX P x = some cx) (hI : HInv P Out ρ H w) (hE : ERel Out ρ H w e a) (hc : cx.ev e = .agg cs)
    (hv : (if isAggD d = true then (if f.offset + i.size ≤ cs.length then some (V.agg ((cs.drop f.offset).take i.size), H) else none) else (cs[f.offset]?).map (·, H)) = some (v, H)) : Does P a o Out ρ H w v H := by
  have h := stripX_rel hI hE hx
  rw [hc] at h
  cases hcx : a.eval x with
  | agg arr => ?_
  | _ => rw [hcx] at h; cases h
  rw [hcx] at h
  cases h with
  | agg _ _ h1 h2 =>
  have hoff : isAggD d = false → f.offset < arr.size := by
    intro hf'
    rw [hf'] at hv
    simp only [Bool.false_eq_true,if_false,Option.map_eq_some_iff] at hv
    obtain ⟨y, hy, _⟩ := hv
    rw [h1]; exact getElem?_lt hy
  refine Does.pure hI (c := if isAggD d = true then .agg (arr.extract f.offset (f.offset + i.size)) else arr.getD f.offset undef) ?_ ?_
  · simp [execOp, ho, Instr.field, run_und hs, hf, hcx, asAgg, run_part hd hi arr f.offset hoff]
  · cases hagg : isAggD d with
    | true =>
      rw [hagg] at hv
      simp only [if_true] at hv ⊢
      split at hv
      · rename_i hle
        cases hv
        refine .agg _ _ (by simp; omega) (fun k hk => ?_)
        simp only [List.length_take,List.length_drop] at hk
        have := h2 (f.offset + k) (by omega)
        simp only [List.getElem_take,List.getElem_drop]
        have hg : (arr.extract f.offset (f.offset + i.size)).getD k undef = arr.getD (f.offset + k) undef := by
          simp [Array.getD, show f.offset + k < arr.size by omega]
          rw [dif_pos (by omega)]
        rw [hg]; exact this
      · cases hv
    | false =>
      rw [hagg] at hv
      simp only [Bool.false_eq_true,if_false,Option.map_eq_some_iff] at hv ⊢
      obtain ⟨y, hy, hyv⟩ := hv
      cases hyv
      have hlt := getElem?_lt hy
      have := h2 _ hlt
      rw [List.getElem?_eq_getElem hlt] at hy
      cases hy
      exact this

theorem does_iaddr {t el : TypeId} {inf : TypeInfo} {x y : Operand} {cx cy : X} {v : V} (ho : o.op = .indexAddr t x y) (ht : P.underlying t = some (.slice el)) (hi : P.info? el = some inf)
    (hx : stripX P x = some cx) (hy : stripX P y = some cy) (hI : HInv P Out ρ H w) (hE : ERel Out ρ H w e a)
    (hv : (match cx.ev e, cy.ev e with
      | .sl _ cs n, .int _ j => if 0 ≤ j ∧ j < n then some (V.rptr cs (j.toNat * inf.size), H) else none
      | .view k g off n, .int _ j => if 0 ≤ j ∧ j < n then some (V.cell k g (off + j.toNat * inf.size), H) else none
      | _, _ => none) = some (v, H)) : Does P a o Out ρ H w v H := by
  have h := stripX_rel hI hE hx
  have h' := stripX_rel hI hE hy
  have hadd : ∀ B off k, (Addr.add ⟨B, off, none⟩ k) = ⟨B, off + k, none⟩ := by intro B off k; unfold Addr.add; split <;> simp_all
  have hrun : ∀ (B off n cap : Nat) (kk : IntKind) (j : Int), a.eval x = .slice (some ⟨B, off, none⟩) n cap → a.eval y = .int kk j → 0 ≤ j ∧ j < n →
      (execOp a.eval o).run P w = .ok (.value (.pointer (some ⟨B, off + j.toNat * inf.size, none⟩))) w := by
    intro B off n cap kk j h1 h2 h3
    simp [execOp, ho, Instr.indexAt, h1, h2, asIntOf, run_und ht, h3, run_size hi, hadd]
  cases hcy : cy.ev e with
  | int kk j => ?_
  | _ => rw [hcy] at hv; split at hv <;> simp_all
  rw [hcy] at hv h'
  have hj := h'.int_inv
  cases hcx : cx.ev e with
  | sl ex cs n =>
    rw [hcx] at hv h
    simp only at hv
    split at hv
    · rename_i hb
      cases hv
      cases hav : a.eval x with
      | slice ad n' cap => ?_
      | _ => rw [hav] at h; cases h
      rw [hav] at h
      cases h with
      | sl _ _ _ B o' _ f h1 h2 h3 h4 h5 => exact Does.pure hI (hrun _ _ _ _ _ _ hav hj hb) (.rptr cs _ B o' f h1 h2 h3)
      | slnil => omega
    · cases hv
  | view k g off n =>
    rw [hcx] at hv h
    simp only at hv
    split at hv
    · rename_i hb
      cases hv
      cases hav : a.eval x with
      | slice ad n' cap => ?_
      | _ => rw [hav] at h; cases h
      rw [hav] at h
      cases h with
      | view _ _ _ _ B _ h1 h2 h3 h4 => exact Does.pure hI (hrun _ _ _ _ _ _ hav hj hb) (.cell k g _ B h1 h2 (fun hg => (h3 hg).1))
    · cases hv
  | _ => rw [hcx] at hv; cases hv

theorem does_aaddr {t el : TypeId} {n : Nat} {inf : TypeInfo} {x y : Operand} {cx cy : X} {v : V} (ho : o.op = .indexAddr t x y) (ht : P.underlying t = some (.array n el)) (hi : P.info? el = some inf)
    (hx : stripX P x = some cx) (hy : stripX P y = some cy) (hI : HInv P Out ρ H w) (hE : ERel Out ρ H w e a)
    (hv : (match cx.ev e, cy.ev e with
      | .rptr cs off, .int _ j => if 0 ≤ j ∧ j < n then some (V.rptr cs (off + j.toNat * inf.size), H) else none
      | .cell k g off, .int _ j => if 0 ≤ j ∧ j < n then some (V.cell k g (off + j.toNat * inf.size), H) else none
      | _, _ => none) = some (v, H)) : Does P a o Out ρ H w v H := by
  have h := stripX_rel hI hE hx
  have h' := stripX_rel hI hE hy
  have hadd : ∀ B off k, (Addr.add ⟨B, off, none⟩ k) = ⟨B, off + k, none⟩ := by intro B off k; unfold Addr.add; split <;> simp_all
  have hrun : ∀ (B off : Nat) (kk : IntKind) (j : Int), a.eval x = .pointer (some ⟨B, off, none⟩) → a.eval y = .int kk j → 0 ≤ j ∧ j < n →
      (execOp a.eval o).run P w = .ok (.value (.pointer (some ⟨B, off + j.toNat * inf.size, none⟩))) w := by
    intro B off kk j h1 h2 h3
    simp [execOp, ho, Instr.indexAt, Instr.sureAddr, h1, h2, asIntOf, run_und ht, h3, run_size hi, hadd]
  cases hcy : cy.ev e with
  | int kk j => ?_
  | _ => rw [hcy] at hv; split at hv <;> simp_all
  rw [hcy] at hv h'
  have hj := h'.int_inv
  cases hcx : cx.ev e with
  | rptr cs off =>
    rw [hcx] at hv h
    simp only at hv
    split at hv
    · rename_i hb
      cases hv
      generalize hav : a.eval x = av at h
      cases h with
      | rptr _ _ B o' f h1 h2 h3 =>
        refine Does.pure hI (hrun _ _ _ _ hav hj hb) ?_
        rw [Nat.add_assoc]
        exact .rptr cs _ B o' f h1 h2 h3
    · cases hv
  | cell k g off =>
    rw [hcx] at hv h
    simp only at hv
    split at hv
    · rename_i hb
      cases hv
      generalize hav : a.eval x = av at h
      cases h with
      | cell _ _ _ B h1 h2 h3 => exact Does.pure hI (hrun _ _ _ _ hav hj hb) (.cell k g _ B h1 h2 h3)
    · cases hv
  | _ => rw [hcx] at hv; cases hv

theorem does_index {t : TypeId} {x y : Operand} {cx cy : X} {s : List UInt8} {kk : IntKind} {j : Int} {b : UInt8} (ho : o.op = .index t x y) (ht : P.underlying t = some .string)
    (hx : stripX P x = some cx) (hy : stripX P y = some cy) (hI : HInv P Out ρ H w) (hE : ERel Out ρ H w e a) (hs : cx.ev e = .str s) (hj : cy.ev e = .int kk j) (h0 : 0 ≤ j) (hb : s[j.toNat]? = some b) :
    Does P a o Out ρ H w (.int .u8 b.toNat) H := by
  have h := stripX_rel hI hE hx
  have h' := stripX_rel hI hE hy
  rw [hs] at h
  rw [hj] at h'
  obtain ⟨ba, rfl, hba⟩ := h.str_inv
  have hg : ba[j.toNat]? = some b := by
    have hlt := getElem?_lt hb
    have hlt' : j.toNat < ba.size := by simpa using hlt
    rw [List.getElem?_eq_getElem hlt] at hb
    cases hb
    rw [getElem?_pos ba j.toNat hlt']
    simp
    rfl
  have hrun : (Instr.index t (.string ba) (.int kk j)).run P w = .ok (.int .u8 b.toNat) w := by
    unfold Instr.index
    simp only [asIntOf,pure_bind,Sem.run_bind,run_und ht,Result.andThen_ok]
    rw [if_pos h0, hg]
    rfl
  exact Does.pure hI (c := .int .u8 b.toNat) (by
    have hyv := h'.int_inv
    unfold execOp
    rw [ho]
    dsimp only
    rw [hba, hyv, Sem.run_bind, hrun]
    rfl) (.int _ _)

theorem does_extract {x : Operand} {cx : X} {j : Nat} {vs : List V} {v : V} (ho : o.op = .extract x j) (hx : stripX P x = some cx) (hI : HInv P Out ρ H w) (hE : ERel Out ρ H w e a)
    (hs : cx.ev e = .tup vs) (hv : vs[j]? = some v) : Does P a o Out ρ H w v H := by
  have h := stripX_rel hI hE hx
  rw [hs] at h
  cases hav : a.eval x with
  | tuple arr => ?_
  | _ => rw [hav] at h; cases h
  rw [hav] at h
  cases h with
  | tup _ _ h1 h2 =>
  have hlt := getElem?_lt hv
  have hr := h2 j hlt
  rw [List.getElem?_eq_getElem hlt] at hv
  cases hv
  have hg : arr[j]? = some (arr.getD j undef) := by simp [Array.getD, show j < arr.size by omega]
  exact Does.pure hI (c := arr.getD j undef) (by
    unfold execOp
    rw [ho]
    dsimp only
    rw [hav, Sem.run_bind]
    unfold Instr.extract
    dsimp only
    rw [hg]
    rfl) hr

theorem does_range {t : TypeId} {x : Operand} {cx : X} {s : List UInt8} (ho : o.op = .range t x) (ht : P.underlying t = some .string) (hx : stripX P x = some cx) (hI : HInv P Out ρ H w) (hE : ERel Out ρ H w e a)
    (hs : cx.ev e = .str s) : Does P a o Out ρ H w (.cell H.length 0 0) (H ++ [.iter s 0]) := by
  have h := stripX_rel hI hE hx
  rw [hs] at h
  obtain ⟨ba, rfl, hba⟩ := h.str_inv
  refine ⟨ext ρ H.length w.heap.size, { w with heap := w.heap.push (.stringIter ba 0) }, Tr.push hI _ _ rfl rfl rfl rfl, HInv.push_iter hI rfl rfl rfl rfl, .inl ⟨.pointer (some ⟨w.heap.size, 0, none⟩), ?_, ?_⟩⟩
  · simp [execOp, ho, Instr.range, run_und ht, hba, newObj, Sem.run]
  · exact .cell _ _ _ _ (by simp) (Nat.zero_le _) (fun _ => ext_at.symm)

theorem does_next {x : Operand} {cx : X} {k pos : Nat} {s : List UInt8} {v : V} {H' : Heap} (ho : o.op = .next x true) (hx : stripX P x = some cx) (hI : HInv P Out ρ H w) (hE : ERel Out ρ H w e a)
    (hs : cx.ev e = .cell k 0 0) (hk : H[k]? = some (.iter s pos))
    (hv : (if pos < s.length then some (V.tup [.bool true, .int .i64 pos, .int .i32 (decL (s.drop pos)).1], H.set k (.iter s (pos + (decL (s.drop pos)).2))) else some (.tup [.bool false], H)) = some (v, H')) :
    Does P a o Out ρ H w v H' := by
  have h := stripX_rel hI hE hx
  rw [hs] at h
  cases hav : a.eval x with
  | pointer p => ?_
  | _ => rw [hav] at h; cases h
  rw [hav] at h
  cases h with
  | cell _ _ _ B h1 h2 h3 =>
  obtain ⟨ba, hba, hw⟩ := hI.iter k s pos hk
  have hB : B = ρ k := h3 (by simp [genOf, hk, HObj.gen])
  subst hB
  have hlen : s.length = ba.size := by rw [← hba]; simp
  have hobj : (getObj (ρ k)).run P w = .ok (.stringIter ba pos) w := by simp [getObj, Sem.run, hw]
  split at hv
  · rename_i hlt
    cases hv
    have hdec : Utf8.decode ba pos = decL (s.drop pos) := by rw [decode_eq, hba]
    have hset := set_iter (w' := { w with heap := w.heap.set! (ρ k) (.stringIter ba (pos + (decL (s.drop pos)).2)) }) hI hk hba hw rfl rfl rfl rfl
    refine ⟨ρ, _, hset.1, hset.2, .inl ⟨.tuple #[.bool true, .int .i64 pos, .int .i32 (decL (s.drop pos)).1], ?_, ?_⟩⟩
    · simp [execOp, ho, hav, Instr.next, hobj, ← hlen, hlt, hdec, setObj, Sem.run, hw, goInt]
    · refine .tup _ _ rfl (fun i hi => ?_)
      match i, hi with
      | 0, _ => exact .bool _
      | 1, _ => exact .int _ _
      | 2, _ => exact .int _ _
  · rename_i hlt
    cases hv
    refine Does.pure hI (c := .tuple #[.bool false]) (by simp [execOp, ho, hav, Instr.next, hobj, ← hlen, hlt]) ?_
    refine .tup _ _ rfl (fun i hi => ?_)
    match i, hi with
    | 0, _ => exact .bool _

end
end Fe
namespace Fe
open Go Go.RowKit

section
variable {P : Program} {Out : Nat → Prop} {ρ : Nat → Nat} {H : Heap} {Bad : Nat → Prop} {w : World} {e : Env} {a : Act} {o : Oper}

theorem constV_boxable {n : Nat} {v : Value} {x : V} (h : constV n v = some x) : x.isCell = true ∨ ∃ cs, x = .agg cs := by
  cases n with
  | zero => cases h
  | succ n =>
    unfold constV at h
    split at h
    · cases h; exact .inl rfl
    · cases h; exact .inl rfl
    · cases h; exact .inl rfl
    · cases h; exact .inl rfl
    · cases h; exact .inl rfl
    · cases h; exact .inl rfl
    · cases h; exact .inl rfl
    · split at h
      · cases h; exact .inl rfl
      · cases h
    · simp only [Option.map_eq_some_iff] at h
      obtain ⟨l, _, rfl⟩ := h
      exact .inr ⟨l, rfl⟩
    · cases h

theorem zero_rel {t : TypeId} {z : List V} (h : zeroCellsOf P t = some z) : ∃ i zv, P.info? t = some i ∧ i.zero = some zv ∧ zv.cells.size = z.length ∧
    ∀ j (h : j < z.length), Rel ρ H Bad w z[j] (zv.cells.getD j undef) := by
  simp only [zeroCellsOf,Option.bind_eq_bind,Option.bind_eq_some_iff,Option.pure_def,Option.some.injEq] at h
  obtain ⟨i, hi, zv, hz, v, hv, rfl⟩ := h
  obtain ⟨h1, h2⟩ := (constV_rel (ρ := ρ) (H := H) (Bad := Bad) (w := w) hv).cells (constV_boxable hv)
  exact ⟨i, zv, hi, hz, h1, h2⟩

theorem flatten_length (n : Nat) (z : List V) : (List.replicate n z).flatten.length = n * z.length := by
  induction n with
  | zero => simp
  | succ n ih => simp [List.replicate_succ, ih, Nat.succ_mul, Nat.add_comm]

theorem flatten_get : ∀ (n : Nat) (z : List V) (i : Nat) (h : i < (List.replicate n z).flatten.length) (hz : i % z.length < z.length), (List.replicate n z).flatten[i] = z[i % z.length]
  | 0, z, i, h, hz => by simp at h
  | n + 1, z, i, h, hz => by
    simp only [List.replicate_succ,List.flatten_cons]
    rcases Nat.lt_or_ge i z.length with h1 | h1
    · rw [List.getElem_append_left h1]
      congr 1
      exact (Nat.mod_eq_of_lt h1).symm
    · rw [List.getElem_append_right h1]
      have h2 : i - z.length < (List.replicate n z).flatten.length := by
        rw [flatten_length] at h ⊢
        rw [Nat.succ_mul] at h
        omega
      have h3 : (i - z.length) % z.length = i % z.length := by
        rw [Nat.mod_eq_sub_mod h1]
      rw [flatten_get n z (i - z.length) h2 (by rw [h3]; exact hz)]
      congr 1

theorem made_get (z : Array Value) (n i : Nat) (h : i < n) (hz : 0 < z.size) : (madeCells z n).getD i undef = z.getD (i % z.size) undef := by
  have hm := Nat.mod_lt i hz
  unfold madeCells
  simp only [Array.getD,Array.size_map,Array.size_range,h,dif_pos,hm,Array.getInternal_eq_getElem,Array.getElem_map,Array.getElem_range]
  rw [getElem!_pos z (i % z.size) hm]

theorem does_mkslice {t el : TypeId} {i : TypeInfo} {z : List V} {x y : Operand} {cx cy : X} {n m : Int} {k k' : IntKind} (ho : o.op = .makeSlice t x y) (ht : P.underlying t = some (.slice el)) (hi : P.info? el = some i)
    (hz : zeroCellsOf P el = some z) (hsz : z.length = i.size) (hpos : i.size ≠ 0) (hx : stripX P x = some cx) (hy : stripX P y = some cy) (hI : HInv P Out ρ H w) (hE : ERel Out ρ H w e a)
    (hn : cx.ev e = .int k n) (hm : cy.ev e = .int k' m) (hb : 0 ≤ n ∧ n ≤ m ∧ m * i.bytes ≤ 281474976710656 ∧ m ≤ 281474976710656) :
    Does P a o Out ρ H w (.view H.length 0 0 n.toNat) (H ++ [.cells 0 i.size true (List.replicate n.toNat z).flatten]) := by
  obtain ⟨h0, h1, h2, h3⟩ := hb
  have hxv := stripX_rel hI hE hx
  have hyv := stripX_rel hI hE hy
  rw [hn] at hxv
  rw [hm] at hyv
  obtain ⟨i', zv, hi', hzv, hc, hr⟩ := zero_rel (ρ := ρ) (H := H) (Bad := BadIn Out ρ H) (w := w) hz
  rw [hi] at hi'
  cases hi'
  have hrun := run_make (P := P) w t el i zv ht hi hzv k k' n m h0 h1 (by rw [Int.mul_comm]; exact h2) (by omega)
  have hlen : (List.replicate n.toNat z).flatten.length = n.toNat * i.size := by rw [flatten_length, hsz]
  have hle : n.toNat * i.size ≤ m.toNat * i.size := Nat.mul_le_mul_right _ (by omega)
  have hw : (w.alloc (.cells (madeCells zv.cells (m.toNat * i.size)) el)).heap = w.heap.push (.cells (madeCells zv.cells (m.toNat * i.size)) el) := rfl
  refine ⟨ext ρ H.length w.heap.size, w.alloc (.cells (madeCells zv.cells (m.toNat * i.size)) el), Tr.push hI _ _ rfl rfl rfl hw,
    HInv.push_cells hI rfl rfl rfl hw (by rw [hlen, size_madeCells]; exact hle) (fun j hj => ?_), .inl ⟨.slice (some ⟨w.heap.size, 0, none⟩) n.toNat m.toNat, ?_, ?_⟩⟩
  · rw [hlen] at hj
    have hz0 : 0 < z.length := by omega
    have hmod : j % z.length < z.length := Nat.mod_lt _ hz0
    rw [flatten_get n.toNat z j (by rw [hlen]; exact hj) hmod, made_get _ _ _ (by omega) (by omega), hc]
    exact hr _ hmod
  · simp only [execOp,ho,hxv.int_inv,hyv.int_inv,Sem.run_bind,hrun,Result.andThen_ok]
    rfl
  · refine .view _ _ _ _ _ _ (by simp) (Nat.zero_le _) (fun _ => ⟨ext_at.symm, fun arr T fz harr => ?_⟩) (by omega)
    rw [ext_at, hw] at harr
    simp only [Array.getElem?_push_size,Option.some.injEq,Obj.cells.injEq] at harr
    obtain ⟨rfl, _, _⟩ := harr
    have : eszOf (H ++ [HObj.cells 0 i.size true (List.replicate n.toNat z).flatten]) H.length = i.size := by simp [eszOf, HObj.esz]
    rw [this, size_madeCells]; omega

/-! ### Slicing -/
theorem run_sliceBound {k : IntKind} {n : Int} {y : Nat} {c : BoundsCode} (h0 : 0 ≤ n) (h1 : n ≤ y) : (Instr.sliceBound (.int k n) y c).run P w = .ok n.toNat w := by
  unfold Instr.sliceBound
  simp only [asIntOf,pure_bind]
  rw [if_pos ⟨h0, h1⟩]
  rfl

theorem boundOf_rel {d : Nat} {lo : Option Operand} {clo : Option X} {n : Int} (hI : HInv P Out ρ H w) (hs : stripOX P lo = some clo) (hE : ERel Out ρ H w e a) (h : boundOf d e clo = some n) :
    (clo = none ∧ lo = none ∧ n = d) ∨ ∃ x k, lo = some x ∧ a.eval x = .int k n ∧ clo.isSome = true := by
  cases lo with
  | none => cases hs; cases h; exact .inl ⟨rfl, rfl, rfl⟩
  | some x =>
    simp only [stripOX,Option.map_eq_some_iff] at hs
    obtain ⟨cx, hx, rfl⟩ := hs
    have hr := stripX_rel hI hE hx
    simp only [boundOf] at h
    split at h
    · rename_i k n' hv
      cases h
      rw [hv] at hr
      exact .inr ⟨x, k, rfl, hr.int_inv, rfl⟩
    · cases h

theorem run_sliceBounds {b : Bool} {len cap : Nat} {lo hi mx : Option Operand} {clo chi cmx : Option X} {l h m : Int} (hI : HInv P Out ρ H w) (hE : ERel Out ρ H w e a)
    (hlo : stripOX P lo = some clo) (hhi : stripOX P hi = some chi) (hmx : stripOX P mx = some cmx) (e1 : boundOf 0 e clo = some l) (e2 : boundOf len e chi = some h) (e3 : boundOf cap e cmx = some m)
    (h0 : 0 ≤ l) (h1 : l ≤ h) (h2 : h ≤ m) (h3 : m ≤ cap) (h4 : chi.isNone = true → cmx.isNone = true) :
    (Instr.sliceBounds b len cap (lo.map a.eval) (hi.map a.eval) (mx.map a.eval)).run P w = .ok (l.toNat, h.toNat, m.toNat) w := by
  unfold Instr.sliceBounds
  rcases boundOf_rel hI hlo hE e1 with ⟨_, rfl, rfl⟩ | ⟨x, k, rfl, hx, _⟩ <;> rcases boundOf_rel hI hhi hE e2 with ⟨q2, rfl, rfl⟩ | ⟨x2, k2, rfl, hx2, q2⟩ <;>
    rcases boundOf_rel hI hmx hE e3 with ⟨_, rfl, rfl⟩ | ⟨x3, k3, rfl, hx3, q3⟩
  all_goals first
    | (subst q2; simp at h4; subst h4; simp at q3; done)
    | skip
  · simp
  · simp [hx2]; rw [run_sliceBound (by omega) (by omega)]; simp
  · simp [hx2, hx3]; rw [run_sliceBound (by omega) (by omega)]; simp; rw [run_sliceBound (by omega) (by omega)]; simp
  · simp [hx]; rw [run_sliceBound (by omega) (by omega)]; simp
  · simp [hx, hx2]; rw [run_sliceBound (by omega) (by omega)]; simp; rw [run_sliceBound (by omega) (by omega)]; simp
  · simp [hx, hx2, hx3]; rw [run_sliceBound (by omega) (by omega)]; simp; rw [run_sliceBound (by omega) (by omega)]; simp; rw [run_sliceBound (by omega) (by omega)]; simp

end
end Fe
namespace Fe
open Go Go.RowKit

section
variable {P : Program} {Out : Nat → Prop} {ρ : Nat → Nat} {H : Heap} {Bad : Nat → Prop} {w : World} {e : Env} {a : Act} {o : Oper}

theorem addr_add (B off k : Nat) : (Addr.add ⟨B, off, none⟩ k) = ⟨B, off + k, none⟩ := by unfold Addr.add; split <;> simp_all

theorem boundOf_mx {n cap : Nat} {cmx : Option X} {m : Int} (h : boundOf n e cmx = some m) : boundOf cap e cmx = some (if cmx.isSome = true then m else cap) := by
  cases cmx with
  | none => simp [boundOf]
  | some x => simpa [boundOf] using h

theorem does_slice {t el : TypeId} {i : TypeInfo} {x : Operand} {lo hi mx : Option Operand} {cx : X} {clo chi cmx : Option X} {v : V} {lim : Nat} (ho : o.op = .slice t x lo hi mx) (ht : P.underlying t = some (.slice el))
    (hi' : P.info? el = some i) (hx : stripX P x = some cx) (hlo : stripOX P lo = some clo) (hhi : stripOX P hi = some chi) (hmx : stripOX P mx = some cmx)
    (hI : HInv P Out ρ H w) (hE : ERel Out ρ H w e a) (hv : sliceV lim H i.size (cx.ev e) clo chi cmx e = some v) : Does P a o Out ρ H w v H := by
  have hr := stripX_rel hI hE hx
  have hrun : ∀ (ad : Option Addr) (n cap : Nat) (l h m : Int), a.eval x = .slice ad n cap → boundOf 0 e clo = some l → boundOf n e chi = some h → boundOf cap e cmx = some m →
      0 ≤ l → l ≤ h → h ≤ m → m ≤ cap → (chi.isNone = true → cmx.isNone = true) →
      (execOp a.eval o).run P w = .ok (.value (.slice (if m.toNat = l.toNat then ad else ad.map (·.add (l.toNat * i.size))) (h.toNat - l.toNat) (m.toNat - l.toNat))) w := by
    intro ad n cap l h m h1 e1 e2 e3 h0 h1' h2 h3 h4
    have := run_sliceBounds (P := P) (w := w) (b := true) hI hE hlo hhi hmx e1 e2 e3 h0 h1' h2 h3 h4
    simp [execOp, ho, Instr.sliceAt, Instr.slice, run_und ht, h1, this, run_size hi']
  unfold sliceV at hv
  cases hcx : cx.ev e with
  | sl ex cs n =>
    rw [hcx] at hv hr
    simp only [Option.bind_eq_some_iff] at hv
    obtain ⟨l, e1, h, e2, m, e3, hv⟩ := hv
    split at hv
    · rename_i hcond
      obtain ⟨c1, c2, c3, c4, c5, c6⟩ := hcond
      cases hv
      cases hav : a.eval x with
      | slice ad n' cap => ?_
      | _ => rw [hav] at hr; cases hr
      rw [hav] at hr
      cases hr with
      | sl _ _ _ B o' _ f g1 g2 g3 g4 g5 =>
        have e3' := boundOf_mx (cap := cap) e3
        have hm' : h ≤ (if cmx.isSome = true then m else (cap : Int)) ∧ (if cmx.isSome = true then m else (cap : Int)) ≤ cap := by
          split
          · exact ⟨c3, by omega⟩
          · rename_i hs
            have : cmx = none := by simpa using hs
            subst this
            simp only [boundOf,Option.some.injEq] at e3
            omega
        refine Does.pure hI (hrun _ _ _ _ _ _ hav e1 e2 e3' c1 c2 hm'.1 hm'.2 c6) ?_
        generalize hM : (if cmx.isSome = true then m else (cap : Int)) = M at *
        have hnn : (h - l).toNat = h.toNat - l.toNat := by omega
        have hlen : ((cs.drop (l.toNat * i.size)).take ((h - l).toNat * i.size)).length = (h - l).toNat * i.size := by
          simp only [List.length_take,List.length_drop,c5]
          have : h.toNat * i.size ≤ n * i.size := Nat.mul_le_mul_right _ (by omega)
          rw [hnn, Nat.sub_mul]
          omega
        have hex : (if cmx.isSome = true then decide (h = m) else ex && decide (h = (n : Int))) = true → M.toNat - l.toNat = (h - l).toNat := by
          intro hh
          split at hh
          · rename_i hs
            rw [if_pos hs] at hM
            have := of_decide_eq_true hh
            omega
          · rename_i hs
            rw [if_neg hs] at hM
            simp only [Bool.and_eq_true,decide_eq_true_eq] at hh
            have := g5 hh.1
            omega
        by_cases hML : M.toNat = l.toNat
        · rw [if_pos hML, ← hnn]
          have h0 : (h - l).toNat = 0 := by omega
          have hnil : (cs.drop (l.toNat * i.size)).take ((h - l).toNat * i.size) = [] := by rw [h0]; simp
          rw [hnil]
          exact .sl _ [] _ B o' _ f (fun i hi => by simp at hi) (fun i hi => by simp at hi) (fun hh => absurd rfl hh) (by omega) hex
        · rw [if_neg hML, ← hnn]
          simp only [Option.map_some,addr_add]
          refine .sl _ _ _ B _ _ (fun j => f (l.toNat * i.size + j)) (fun j hj => ?_) (fun j hj => ?_) (fun hh hb => ?_) (by omega) hex
          · rw [hlen] at hj
            rw [Nat.add_assoc]
            refine g1 _ ?_
            rw [c5]
            have h5 : h.toNat * i.size ≤ n * i.size := Nat.mul_le_mul_right _ (by omega)
            rw [hnn, Nat.sub_mul] at hj
            omega
          · have := g2 (l.toNat * i.size + j) (by
              rw [hlen] at hj
              rw [c5]
              have h5 : h.toNat * i.size ≤ n * i.size := Nat.mul_le_mul_right _ (by omega)
              rw [hnn, Nat.sub_mul] at hj
              omega)
            simpa using this
          · refine g3 (fun hc => hh ?_) hb
            subst hc; simp
      | slnil _ =>
        have e3' := boundOf_mx (cap := 0) e3
        have hM : (if cmx.isSome = true then m else ((0 : Nat) : Int)) = 0 := by split <;> omega
        rw [hM] at e3'
        have hl : l = 0 := by omega
        have hh : h = 0 := by omega
        subst hl hh
        refine Does.pure hI (hrun _ _ _ _ _ _ hav e1 e2 e3' (by omega) (by omega) (by omega) (by omega) c6) ?_
        simp
        exact .slnil _
    · cases hv
  | view k g off n =>
    rw [hcx] at hv hr
    simp only [Option.bind_eq_some_iff] at hv
    obtain ⟨l, e1, h, e2, hv⟩ := hv
    split at hv
    · rename_i hcond
      obtain ⟨c1, c2, c3, c4, _, c5, c6⟩ := hcond
      have : cmx = none := by simpa using c4
      subst this
      cases hav : a.eval x with
      | slice ad n' cap => ?_
      | _ => rw [hav] at hr; cases hr
      rw [hav] at hr
      cases hr with
      | view _ _ _ _ B _ g1 g2 g3 g4 =>
      have hrun' := hrun _ _ _ l h cap hav e1 e2 (by simp [boundOf]) c1 c2 (by omega) (by omega) (fun _ => rfl)
      have hnn : (h - l).toNat = h.toNat - l.toNat := by omega
      split at hv
      · rename_i hln
        cases hv
        refine Does.pure hI hrun' ?_
        have h0 : h.toNat - l.toNat = 0 := by omega
        rw [h0]
        split
        · exact .sl false [] 0 B off _ (fun _ => undef) (fun i hi => by simp at hi) (fun i hi => by simp at hi) (fun hh => absurd rfl hh) (Nat.zero_le _) (by simp)
        · simp only [Option.map_some,addr_add]
          exact .sl false [] 0 B _ _ (fun _ => undef) (fun i hi => by simp at hi) (fun i hi => by simp at hi) (fun hh => absurd rfl hh) (Nat.zero_le _) (by simp)
      · rename_i hln
        cases hv
        refine Does.pure hI hrun' ?_
        rw [← hnn]
        have haddr : (if (cap : Int).toNat = l.toNat then some (⟨B, off, none⟩ : Addr) else Option.map (fun q : Addr => q.add (l.toNat * i.size)) (some ⟨B, off, none⟩)) = some ⟨B, off + l.toNat * i.size, none⟩ := by
          split
          · have : l.toNat = 0 := by omega
            simp [this]
          · simp [addr_add]
        rw [haddr]
        refine .view _ _ _ _ _ _ g1 g2 (fun hg => ⟨(g3 hg).1, fun arr T fz harr => ?_⟩) (by omega)
        have h7 := (g3 hg).2 arr T fz harr
        rw [c6] at h7 ⊢
        rw [Nat.sub_mul]
        have : l.toNat * i.size ≤ cap * i.size := Nat.mul_le_mul_right _ (by omega)
        simp only [Int.toNat_natCast]
        omega
    · cases hv
  | _ => rw [hcx] at hv; cases hv

theorem does_slstr {t : TypeId} {x : Operand} {lo hi : Option Operand} {cx : X} {clo chi : Option X} {v : V} (ho : o.op = .slice t x lo hi none) (ht : P.underlying t = some .string)
    (hx : stripX P x = some cx) (hlo : stripOX P lo = some clo) (hhi : stripOX P hi = some chi)
    (hI : HInv P Out ρ H w) (hE : ERel Out ρ H w e a) (hv : slstrV (cx.ev e) clo chi e = some v) : Does P a o Out ρ H w v H := by
  have hr := stripX_rel hI hE hx
  unfold slstrV at hv
  cases hcx : cx.ev e with
  | str s =>
    rw [hcx] at hv hr
    simp only [Option.bind_eq_some_iff] at hv
    obtain ⟨l, e1, h, e2, hv⟩ := hv
    split at hv
    · rename_i hcond
      obtain ⟨c1, c2, c3⟩ := hcond
      cases hv
      obtain ⟨ba, rfl, hba⟩ := hr.str_inv
      have hlen : ba.data.toList.length = ba.size := by simp
      rw [hlen] at e2 c3
      have hb := run_sliceBounds (P := P) (w := w) (b := false) (mx := none) (cmx := none) (cap := ba.size) hI hE hlo hhi rfl e1 e2 (m := ba.size) (by simp [boundOf]) c1 c2 c3 (Int.le_refl _) (fun _ => rfl)
      simp only [Option.map_none] at hb
      have hex : (ba.extract l.toNat h.toNat).data.toList = (ba.data.toList.drop l.toNat).take (h - l).toNat := by
        have hnn : (h - l).toNat = h.toNat - l.toNat := by omega
        rw [hnn]
        simp [List.extract_eq_take_drop]
      refine Does.pure hI (c := .string (ba.extract l.toNat h.toNat)) ?_ ?_
      · simp only [execOp,ho,Option.map_none,Sem.run_bind,Instr.sliceAt,run_und ht,Result.andThen_ok]
        unfold Instr.slice
        simp only [hba,Sem.run_bind,run_und ht,Result.andThen_ok,Option.isSome_none,Bool.false_eq_true,if_false,hb]
        rfl
      · rw [← hex]; exact .str _
    · cases hv
  | _ => rw [hcx] at hv; cases hv

theorem does_len {c : Call} {t : TypeId} {d : TypeDesc} {x : Operand} {cx : X} {n : Nat} (ho : o.op = .call c) (hc : c.callee = .builtin .len) (ha : c.argTypes.toList = [t]) (hb : c.args.toList = [x])
    {str : Bool} (ht : P.underlying t = some d) (hd : (str = true ∧ d = .string) ∨ (str = false ∧ ∃ el, d = .slice el)) (hx : stripX P x = some cx) (hI : HInv P Out ρ H w) (hE : ERel Out ρ H w e a)
    (hv : lenV str (cx.ev e) = some n) : Does P a o Out ρ H w (.int .i64 n) H := by
  have hr := stripX_rel hI hE hx
  have hargs : c.args = #[x] := by apply Array.ext'; simpa using hb
  have htys : c.argTypes = #[t] := by apply Array.ext'; simpa using ha
  have hrun : ∀ n, (Builtin.len_ #[t] o.type #[a.eval x]).run P w = .ok (goInt n) w → (execOp a.eval o).run P w = .ok (.value (.int .i64 n)) w := by
    intro n hn
    simp only [execOp,ho,resolve,hc,hargs,htys,Sem.run_bind,invoke,builtin]
    simp [hn, goInt]
  rcases hd with ⟨rfl, rfl⟩ | ⟨rfl, el, rfl⟩
  · cases hcx : cx.ev e with
    | str s =>
      rw [hcx] at hv hr
      cases hv
      obtain ⟨ba, rfl, hba⟩ := hr.str_inv
      have hlen : ba.data.toList.length = ba.size := by simp
      rw [hlen]
      exact Does.pure hI (hrun _ (by simp [Builtin.len_, run_und ht, hba])) (.int _ _)
    | _ => rw [hcx] at hv; cases hv
  · cases hcx : cx.ev e with
    | sl ex cs n =>
      rw [hcx] at hv hr
      cases hv
      cases hav : a.eval x with
      | slice ad n' cap => ?_
      | _ => rw [hav] at hr; cases hr
      rw [hav] at hr
      cases hr with
      | sl _ _ _ B o' _ f g1 g2 g3 g4 g5 => exact Does.pure hI (hrun _ (by simp [Builtin.len_, run_und ht, hav])) (.int _ _)
      | slnil => exact Does.pure hI (hrun 0 (by simp [Builtin.len_, run_und ht, hav])) (.int _ _)
    | view k g off n =>
      rw [hcx] at hv hr
      cases hv
      cases hav : a.eval x with
      | slice ad n' cap => ?_
      | _ => rw [hav] at hr; cases hr
      rw [hav] at hr
      cases hr with
      | view _ _ _ _ B _ g1 g2 g3 g4 => exact Does.pure hI (hrun _ (by simp [Builtin.len_, run_und ht, hav])) (.int _ _)
    | _ => rw [hcx] at hv; cases hv

theorem does_max {c : Call} {x y : Operand} {cx cy : X} {k k' : IntKind} {p q : Int} (ho : o.op = .call c) (hc : c.callee = .builtin .max) (hb : c.args.toList = [x, y])
    (hx : stripX P x = some cx) (hy : stripX P y = some cy) (hI : HInv P Out ρ H w) (hE : ERel Out ρ H w e a) (h1 : cx.ev e = .int k p) (h2 : cy.ev e = .int k' q) :
    Does P a o Out ρ H w (.int k (if q > p then q else p)) H := by
  have hrx := stripX_rel hI hE hx
  have hry := stripX_rel hI hE hy
  rw [h1] at hrx
  rw [h2] at hry
  have hargs : c.args = #[x, y] := by apply Array.ext'; simpa using hb
  exact Does.pure hI (c := .int k (if q > p then q else p)) (by simp [execOp, ho, resolve, hc, hargs, invoke, builtin, Builtin.max_, Builtin.max2, hrx.int_inv, hry.int_inv]) (.int _ _)

theorem does_min {c : Call} {x y : Operand} {cx cy : X} {k k' : IntKind} {p q : Int} (ho : o.op = .call c) (hc : c.callee = .builtin .min) (hb : c.args.toList = [x, y])
    (hx : stripX P x = some cx) (hy : stripX P y = some cy) (hI : HInv P Out ρ H w) (hE : ERel Out ρ H w e a) (h1 : cx.ev e = .int k p) (h2 : cy.ev e = .int k' q) :
    Does P a o Out ρ H w (.int k (if q < p then q else p)) H := by
  have hrx := stripX_rel hI hE hx
  have hry := stripX_rel hI hE hy
  rw [h1] at hrx
  rw [h2] at hry
  have hargs : c.args = #[x, y] := by apply Array.ext'; simpa using hb
  exact Does.pure hI (c := .int k (if q < p then q else p)) (by simp [execOp, ho, resolve, hc, hargs, invoke, builtin, Builtin.min_, Builtin.min2, hrx.int_inv, hry.int_inv]) (.int _ _)

end
end Fe
namespace Fe
open Go Go.RowKit

section
variable {P : Program} {Out : Nat → Prop} {ρ : Nat → Nat} {H : Heap} {Bad : Nat → Prop} {w : World} {e : Env} {a : Act} {o : Oper}

theorem fold_set (vs : List Value) : ∀ (arr : Array Value) (off j : Nat), off + j + vs.length ≤ arr.size →
    ((vs.zipIdx j).foldl (fun cs (c, i) => cs.setIfInBounds (off + i) c) arr).size = arr.size ∧
    ∀ i, ((vs.zipIdx j).foldl (fun cs (c, i) => cs.setIfInBounds (off + i) c) arr).getD i undef = if off + j ≤ i ∧ i < off + j + vs.length then vs.getD (i - (off + j)) undef else arr.getD i undef := by
  induction vs with
  | nil => intro arr off j _; exact ⟨rfl, fun i => by rw [if_neg (by simp)]; rfl⟩
  | cons v vs ih =>
    intro arr off j hl
    simp only [List.length_cons] at hl
    simp only [List.zipIdx_cons,List.foldl_cons]
    obtain ⟨h1, h2⟩ := ih (arr.setIfInBounds (off + j) v) off (j + 1) (by simp; omega)
    refine ⟨by rw [h1]; simp, fun i => ?_⟩
    rw [h2]
    by_cases hi : i = off + j
    · subst hi
      rw [if_neg (by omega), if_pos (by simp), Nat.sub_self]
      simp [Array.getD, show off + j < arr.size by omega]
    · by_cases hi2 : off + (j + 1) ≤ i ∧ i < off + (j + 1) + vs.length
      · rw [if_pos hi2, if_pos (by simp; omega), show i - (off + j) = (i - (off + (j + 1))) + 1 by omega]
        simp
      · rw [if_neg hi2, if_neg (by simp; omega)]
        simp only [Array.getD,Array.size_setIfInBounds]
        split
        · exact Array.getElem_setIfInBounds_ne (by assumption) (Ne.symm hi)
        · rfl

theorem fill_rel (hI : HInv P Out ρ H w) {place : Nat → Option (Nat × Nat)} : ∀ {ps : List (Nat × Operand)} {cps : List (Nat × Nat × X)} {cs cs' : List V} {arr : Array Value}, stripParts P place ps = some cps →
    ERel Out ρ H w e a → fillL cs (evParts e cps) = some cs' → arr.size = cs.length → (∀ i (h : i < cs.length), Rel ρ H (BadIn Out ρ H) w cs[i] (arr.getD i undef)) →
    ∃ arr', Instr.fill place arr (ps.map fun p => (p.1, a.eval p.2)) = some arr' ∧ arr'.size = cs'.length ∧ ∀ i (h : i < cs'.length), Rel ρ H (BadIn Out ρ H) w cs'[i] (arr'.getD i undef)
  | [], cps, cs, cs', arr, hs, hE, hf, hsz, hr => by
    simp [stripParts] at hs
    subst hs
    simp only [evParts,List.map_nil,fillL,Option.some.injEq] at hf
    subst hf
    exact ⟨arr, rfl, hsz, hr⟩
  | (j, x) :: ps, cps, cs, cs', arr, hs, hE, hf, hsz, hr => by
    unfold stripParts at hs
    rw [List.mapM_cons] at hs
    simp only [Option.bind_eq_bind,Option.bind_eq_some_iff,Option.pure_def,Option.some.injEq] at hs
    obtain ⟨p, ⟨⟨off, sz⟩, hpl, cx, hx, rfl⟩, cps', hps, rfl⟩ := hs
    simp only [evParts,List.map_cons,fillL] at hf
    split at hf
    · rename_i hc
      obtain ⟨c1, c2, c3⟩ := hc
      have hrx := stripX_rel hI hE hx
      obtain ⟨g1, g2⟩ := hrx.cells (boxable_cases c1)
      have hlen : off + (cx.ev e).cells.length ≤ cs.length := by omega
      obtain ⟨f1, f2⟩ := fold_set (a.eval x).cells.toList arr off 0 (by simp; omega)
      obtain ⟨arr', h1, h2, h3⟩ := fill_rel hI (ps := ps) (cps := cps') (cs := splice cs off (cx.ev e).cells) (cs' := cs')
        (arr := ((a.eval x).cells.toList.zipIdx 0).foldl (fun cs (c, i) => cs.setIfInBounds (off + i) c) arr) hps hE hf (by rw [f1, splice_length hlen]; exact hsz) (fun i hi => by
          rw [splice_get hlen, f2]
          have hi2 := hi
          rw [splice_length hlen] at hi2
          split
          · rename_i h2
            rw [if_pos (by simp; omega)]
            have := g2 (i - off) (by omega)
            have hg : (a.eval x).cells.getD (i - off) undef = (a.eval x).cells.toList.getD (i - (off + 0)) undef := by
              simp [Array.getD, List.getD, show i - off < (a.eval x).cells.size by omega]
            rw [hg] at this
            exact this
          · rename_i h2
            rw [if_neg (by simp; omega)]
            exact hr i hi2)
      refine ⟨arr', ?_, h2, h3⟩
      simp only [List.map_cons,Instr.fill,hpl]
      rw [if_neg (by simp; omega)]
      have hz : (a.eval x).cells.zipIdx.foldl (fun cs (c, j) => cs.setIfInBounds (off + j) c) arr = ((a.eval x).cells.toList.zipIdx 0).foldl (fun cs (c, i) => cs.setIfInBounds (off + i) c) arr := by
        rw [← Array.foldl_toList]
        simp
      rw [hz]
      exact h1
    · cases hf

theorem run_mapM_list {α β : Type} (f : α → Sem β) (g : α → Option β) (l : List α) (r : List β) (h : l.mapM g = some r) (hf : ∀ x y, g x = some y → (f x).run P w = .ok y w) :
    (l.mapM f).run P w = .ok r w := by
  induction l generalizing r with
  | nil => simp at h; subst h; simp
  | cons x l ih =>
    rw [List.mapM_cons] at h ⊢
    simp only [Option.bind_eq_bind,Option.bind_eq_some_iff,Option.pure_def,Option.some.injEq] at h
    obtain ⟨y, hy, ys, hys, rfl⟩ := h
    simp [hf x y hy, ih ys hys]

theorem does_build {t : TypeId} {ps : Array (Nat × Operand)} {d : TypeDesc} {z : List V} {cps : List (Nat × Nat × X)} {cs : List V} (ho : o.op = .build t ps) (hd : P.underlying t = some d) (hz : zeroCellsOf P t = some z)
    (hp : (∃ fs pl, d = .struct fs ∧ structPlaces P fs = some pl ∧ stripParts P (pl[·]?) ps.toList = some cps) ∨ (∃ n el i, d = .array n el ∧ P.info? el = some i ∧ stripParts P (fun k => some (k * i.size, i.size)) ps.toList = some cps))
    (hI : HInv P Out ρ H w) (hE : ERel Out ρ H w e a) (hf : fillL z (evParts e cps) = some cs) : Does P a o Out ρ H w (.agg cs) H := by
  obtain ⟨i', zv, hi', hzv, hc, hr⟩ := zero_rel (ρ := ρ) (H := H) (Bad := BadIn Out ρ H) (w := w) hz
  have hzr : (zeroValue t).run P w = .ok zv w := run_zero hi' hzv
  have hmap : (ps.map fun p => (p.1, a.eval p.2)).toList = ps.toList.map fun p => (p.1, a.eval p.2) := by simp
  rcases hp with ⟨fs, pl, rfl, hpl, hst⟩ | ⟨n, el, i, rfl, hi, hst⟩
  · obtain ⟨arr', h1, h2, h3⟩ := fill_rel hI hst hE hf hc hr
    have hplaces : (fs.mapM fun f => (do pure (f.offset, ← Go.sizeOf f.type) : Sem (Nat × Nat))).run P w = .ok pl.toArray w := by
      rw [Array.mapM_eq_mapM_toList]
      simp only [Sem.run_map]
      have hpl' : fs.toList.mapM (fun f => (P.info? f.type).map fun i => (f.offset, i.size)) = some pl := hpl
      rw [run_mapM_list _ (fun f : Field => (P.info? f.type).map fun i => (f.offset, i.size)) fs.toList pl hpl' (fun f y hy => by
        simp only [Option.map_eq_some_iff] at hy
        obtain ⟨i, hi, rfl⟩ := hy
        simp [run_size hi])]
      rfl
    refine Does.pure hI (c := .agg arr') ?_ (.agg _ _ h2 h3)
    have hfun : (fun k : Nat => pl.toArray[k]?) = (fun k : Nat => pl[k]?) := by funext k; simp
    have : (Instr.build t (ps.map fun p => (p.1, a.eval p.2))).run P w = .ok (.agg arr') w := by
      unfold Instr.build
      simp only [Sem.run_bind,hzr,Result.andThen_ok,run_und hd,hplaces,hmap]
      rw [hfun, h1]
      rfl
    simp only [execOp,ho,Sem.run_bind]
    rw [this]
    rfl
  · obtain ⟨arr', h1, h2, h3⟩ := fill_rel hI hst hE hf hc hr
    refine Does.pure hI (c := .agg arr') ?_ (.agg _ _ h2 h3)
    have : (Instr.build t (ps.map fun p => (p.1, a.eval p.2))).run P w = .ok (.agg arr') w := by
      unfold Instr.build
      simp only [Sem.run_bind,hzr,Result.andThen_ok,run_und hd,run_size hi,hmap]
      rw [h1]
      rfl
    simp only [execOp,ho,Sem.run_bind]
    rw [this]
    rfl

theorem does_mksl {t el : TypeId} {len : Nat} {ps : Array (Nat × Operand)} {i : TypeInfo} {z : List V} {cps : List (Nat × Nat × X)} {cs : List V} (ho : o.op = .buildSlice t len ps) (ht : P.underlying t = some (.slice el))
    (hi : P.info? el = some i) (hb : ¬ (len * i.size > 2 ^ 24 ∨ i.size = 0)) (hz : zeroCellsOf P el = some z) (hsz : z.length = i.size)
    (hst : stripParts P (fun k => some (k * i.size, i.size)) ps.toList = some cps)
    (hI : HInv P Out ρ H w) (hE : ERel Out ρ H w e a) (hf : fillL (List.replicate len z).flatten (evParts e cps) = some cs) : Does P a o Out ρ H w (.sl true cs len) H := by
  obtain ⟨i', zv, hi', hzv, hc, hr⟩ := zero_rel (ρ := ρ) (H := H) (Bad := BadIn Out ρ H) (w := w) hz
  rw [hi] at hi'
  cases hi'
  have hpos : 0 < i.size := by omega
  have hflen : (List.replicate len z).flatten.length = len * i.size := by rw [flatten_length, hsz]
  have hfr : ∀ j (h : j < (List.replicate len z).flatten.length), Rel ρ H (BadIn Out ρ H) w (List.replicate len z).flatten[j] ((madeCells zv.cells (len * i.size)).getD j undef) := by
    intro j hj
    have hmod : j % z.length < z.length := Nat.mod_lt _ (by omega)
    rw [flatten_get len z j hj hmod, made_get _ _ _ (by omega) (by omega), hc]
    exact hr _ hmod
  obtain ⟨arr', h1, h2, h3⟩ := fill_rel hI hst hE hf (by rw [size_madeCells, hflen]) hfr
  have hmap : (ps.map fun p => (p.1, a.eval p.2)).toList = ps.toList.map fun p => (p.1, a.eval p.2) := by simp
  have hrun : (Instr.buildSlice t len (ps.map fun p => (p.1, a.eval p.2))).run P w = .ok (.slice (some ⟨w.heap.size, 0, none⟩) len len) (w.alloc (.cells arr' el)) := by
    unfold Instr.buildSlice
    simp only [Sem.run_bind,run_und ht,Result.andThen_ok,run_size hi]
    rw [if_neg (by omega)]
    by_cases h0 : len * i.size = 0
    · simp only [h0,if_true,pure_bind]
      have hm0 : madeCells zv.cells (len * i.size) = #[] := by rw [h0]; simp [madeCells, Array.range_zero']
      rw [hm0] at h1
      simp only [Array.range_zero',Array.map_empty,hmap,h1]
      simp [newRow]
    · simp only [if_neg h0,Sem.run_bind,run_zero hi hzv,Result.andThen_ok]
      have hmc : (Array.range (len * i.size)).map (zv.cells[· % zv.cells.size]!) = madeCells zv.cells (len * i.size) := rfl
      simp only [Sem.run_pure,Result.andThen_ok,hmc,hmap,h1]
      simp [newRow]
  have hw : (w.alloc (.cells arr' el)).heap = w.heap.push (.cells arr' el) := rfl
  refine ⟨ρ, w.alloc (.cells arr' el), Tr.grow hI _ rfl rfl rfl hw, HInv.grow hI _ rfl rfl rfl hw, .inl ⟨.slice (some ⟨w.heap.size, 0, none⟩) len len, ?_, ?_⟩⟩
  · simp only [execOp,ho,Sem.run_bind]
    rw [hrun]
    rfl
  · have t : Tr ρ H w ρ H (w.alloc (.cells arr' el)) := Tr.grow hI _ rfl rfl rfl hw
    refine .sl true cs len _ 0 len (fun j => arr'.getD j undef) (fun j hj => ?_) (fun j hj => (h3 j hj).step t) (fun _ => hI.notOut _ (Nat.le_refl _)) (Nat.le_refl _) (fun _ => rfl)
    simp only [World.cell?,hw,Array.getElem?_push_size]
    simp [Array.getD, show j < arr'.size by omega]

theorem splice_len {cs new : List V} {off : Nat} (h : off + new.length ≤ cs.length) : (splice cs off new).length = cs.length := by
  simp only [splice,List.length_append,List.length_take,List.length_drop]; omega
theorem fillL_len : ∀ {l : List (Nat × Nat × V)} {cs cs' : List V}, fillL cs l = some cs' → cs'.length = cs.length
  | [], cs, cs', h => by
    simp only [fillL,Option.some.injEq] at h
    rw [h]
  | (off, size, v) :: l, cs, cs', h => by
    simp only [fillL] at h
    split at h
    · rename_i hc
      rw [fillL_len h, splice_len (by rw [hc.2.1]; exact hc.2.2)]
    · cases h

theorem does_mkslh {t el : TypeId} {len : Nat} {ps : Array (Nat × Operand)} {i : TypeInfo} {z : List V} {cps : List (Nat × Nat × X)} {cs : List V} (ho : o.op = .buildSlice t len ps) (ht : P.underlying t = some (.slice el))
    (hi : P.info? el = some i) (hb : ¬ (len * i.size > 2 ^ 24 ∨ i.size = 0)) (hz : zeroCellsOf P el = some z) (hsz : z.length = i.size)
    (hst : stripParts P (fun k => some (k * i.size, i.size)) ps.toList = some cps)
    (hI : HInv P Out ρ H w) (hE : ERel Out ρ H w e a) (hf : fillL (List.replicate len z).flatten (evParts e cps) = some cs) : Does P a o Out ρ H w (.view H.length 0 0 len) (H ++ [.cells 0 i.size true cs]) := by
  obtain ⟨i', zv, hi', hzv, hc, hr⟩ := zero_rel (ρ := ρ) (H := H) (Bad := BadIn Out ρ H) (w := w) hz
  rw [hi] at hi'
  cases hi'
  have hpos : 0 < i.size := by omega
  have hflen : (List.replicate len z).flatten.length = len * i.size := by rw [flatten_length, hsz]
  have hfr : ∀ j (h : j < (List.replicate len z).flatten.length), Rel ρ H (BadIn Out ρ H) w (List.replicate len z).flatten[j] ((madeCells zv.cells (len * i.size)).getD j undef) := by
    intro j hj
    have hmod : j % z.length < z.length := Nat.mod_lt _ (by omega)
    rw [flatten_get len z j hj hmod, made_get _ _ _ (by omega) (by omega), hc]
    exact hr _ hmod
  obtain ⟨arr', h1, h2, h3⟩ := fill_rel hI hst hE hf (by rw [size_madeCells, hflen]) hfr
  have hmap : (ps.map fun p => (p.1, a.eval p.2)).toList = ps.toList.map fun p => (p.1, a.eval p.2) := by simp
  have hrun : (Instr.buildSlice t len (ps.map fun p => (p.1, a.eval p.2))).run P w = .ok (.slice (some ⟨w.heap.size, 0, none⟩) len len) (w.alloc (.cells arr' el)) := by
    unfold Instr.buildSlice
    simp only [Sem.run_bind,run_und ht,Result.andThen_ok,run_size hi]
    rw [if_neg (by omega)]
    by_cases h0 : len * i.size = 0
    · simp only [h0,if_true,pure_bind]
      have hm0 : madeCells zv.cells (len * i.size) = #[] := by rw [h0]; simp [madeCells, Array.range_zero']
      rw [hm0] at h1
      simp only [Array.range_zero',Array.map_empty,hmap,h1]
      simp [newRow]
    · simp only [if_neg h0,Sem.run_bind,run_zero hi hzv,Result.andThen_ok]
      have hmc : (Array.range (len * i.size)).map (zv.cells[· % zv.cells.size]!) = madeCells zv.cells (len * i.size) := rfl
      simp only [Sem.run_pure,Result.andThen_ok,hmc,hmap,h1]
      simp [newRow]
  have hw : (w.alloc (.cells arr' el)).heap = w.heap.push (.cells arr' el) := rfl
  have hcl : cs.length = len * i.size := by rw [fillL_len hf, hflen]
  have has : cs.length ≤ arr'.size := by omega
  refine ⟨ext ρ H.length w.heap.size, w.alloc (.cells arr' el), Tr.push hI _ _ rfl rfl rfl hw, HInv.push_cells hI rfl rfl rfl hw has h3, .inl ⟨.slice (some ⟨w.heap.size, 0, none⟩) len len, ?_, ?_⟩⟩
  · simp only [execOp,ho,Sem.run_bind]
    rw [hrun]
    rfl
  · refine .view _ _ _ _ _ _ (by simp) (Nat.zero_le _) (fun _ => ⟨ext_at.symm, fun arr T fz harr => ?_⟩) (Nat.le_refl _)
    rw [ext_at, hw] at harr
    simp only [Array.getElem?_push_size,Option.some.injEq,Obj.cells.injEq] at harr
    obtain ⟨rfl, _, _⟩ := harr
    have : eszOf (H ++ [HObj.cells 0 i.size true cs]) H.length = i.size := by simp [eszOf, HObj.esz]
    rw [this]; omega

end
end Fe
namespace Fe
open Go Go.RowKit

section
variable {P : Program} {Out : Nat → Prop} {ρ : Nat → Nat} {H : Heap} {Bad : Nat → Prop} {w : World} {e : Env} {a : Act} {o : Oper}

/-- What an append is told of its second argument. -/
theorem src_cells {v : V} {c : Value} {esz m : Nat} {new : List V} (hI : HInv P Out ρ H w) (hc : Rel ρ H (BadIn Out ρ H) w v c) (h : srcCells H esz v = some (m, new)) :
    (∀ w', (Builtin.lenOf c).run P w' = .ok m w') ∧ ∃ arr : Array Value, arr.size = new.length ∧ (∀ w', w'.heap = w.heap → (Builtin.firstCells esz m c).run P w' = .ok arr w') ∧
      ∀ i (hi : i < new.length), Rel ρ H (BadIn Out ρ H) w new[i] (arr.getD i undef) := by
  cases hv : v with
  | str s =>
    rw [hv] at h hc
    simp only [srcCells,Option.some.injEq,Prod.mk.injEq] at h
    obtain ⟨rfl, rfl⟩ := h
    obtain ⟨ba, rfl, rfl⟩ := hc.str_inv
    have hlen : ba.data.toList.length = ba.size := by simp
    refine ⟨fun w' => by simp [Builtin.lenOf], ba.data.map fun b => .int .u8 b.toNat, by simp, fun w' _ => ?_, fun i hi => ?_⟩
    · simp only [Builtin.firstCells,hlen]
      have : ba.extract 0 ba.size = ba := by simp
      rw [this]; rfl
    · simp only [List.length_map,Array.length_toList] at hi
      simp only [List.getElem_map,Array.getElem_toList]
      have hi2 : i < ba.size := hi
      have : (ba.data.map fun b => Value.int .u8 b.toNat).getD i undef = Value.int .u8 (ba.data[i].toNat : Int) := by simp [Array.getD, hi2]
      rw [this]; exact .int _ _
  | _ =>
    rw [hv] at h hc
    have h' : readSl H.length H esz v = some (m, new) := by rw [hv]; exact h
    rw [← hv] at hc
    obtain ⟨hl', ad, cap, f, hcv, hrel, hm⟩ := readSl_cells hI hc h'
    refine ⟨fun w' => by simp [hcv, Builtin.lenOf], (Array.range new.length).map f, by simp, fun w' hw' => ?_, fun i hi => ?_⟩
    · rcases hm with ⟨rfl, rfl, rfl⟩ | ⟨B, off, rfl, hcell⟩
      · have : new.length = 0 := by omega
        rw [hcv, this]
        simp [Builtin.firstCells, Array.range_zero']
      · rw [hcv]
        simp only [Builtin.firstCells]
        rw [← hl', run_loadCells_at B off new.length f (fun i hi => by rw [cell_of_block (w := w) (by rw [hw'])]; exact hcell i hi)]
    · have : ((Array.range new.length).map f).getD i undef = f i := by simp [Array.getD, hi]
      rw [this]; exact hrel i hi

theorem run_append_new {t u ty el : TypeId} {i : TypeInfo} {z : Value} {ud : TypeDesc} (ht : P.underlying t = some (.slice el)) (hu : P.underlying u = some ud) (hud : ∀ k, ud ≠ .int k) (hi : P.info? el = some i) (hz : i.zero = some z)
    {base : Option Addr} {n cap m : Nat} {y : Value} {old new : Array Value} (hm : ∀ w', (Builtin.lenOf y).run P w' = .ok m w') (hnew : ∀ w', w'.heap = w.heap → (Builtin.firstCells i.size m y).run P w' = .ok new w')
    (hold : ∀ w', w'.heap = w.heap → (Builtin.firstCells i.size n (.slice base n cap)).run P w' = .ok old w') (hg : cap < n + m) (h63 : n + m ≤ 9223372036854775807) (hb : (n + m) * i.bytes ≤ 140737488355328) :
    (Builtin.append_ #[t, u] ty #[.slice base n cap, y]).run P w = .ok (.slice (some ⟨w.heap.size, 0, none⟩) (n + m) (grownCap w (n + m) cap el))
      (w.drew.alloc (.cells (old ++ new ++ Builtin.zeroCells z.cells (grownCap w (n + m) cap el - (n + m))) el)) := by
  have hn : ¬ (n + m ≤ cap) := by omega
  have hfit := growslice_fits hg hb
  have h48' : ¬ (281474976710656 < Builtin.nextslicecap (n + m) cap * i.bytes) := by omega
  have h63' : ¬ (9223372036854775807 < ((n : Int) + (m : Int))) := by omega
  have hf := hnew w.drew rfl
  have hfo := hold w.drew rfl
  simp only [Builtin.append_]
  simp [run_und ht, run_und hu, run_size hi, run_info hi, hm, hn, h63', h48', Question.forced, hf, hfo, newRow, grownCap, run_zero hi hz]

theorem run_append_fit {t u ty el : TypeId} {i : TypeInfo} {ud : TypeDesc} (ht : P.underlying t = some (.slice el)) (hu : P.underlying u = some ud) (hud : ∀ k, ud ≠ .int k) (hi : P.info? el = some i)
    {base : Option Addr} {n cap m : Nat} {y : Value} {new : Array Value} (hm : ∀ w', (Builtin.lenOf y).run P w' = .ok m w') (hnew : ∀ w', w'.heap = w.heap → (Builtin.firstCells i.size m y).run P w' = .ok new w')
    (hg : n + m ≤ cap) {w' : World} (hst : ∀ b, base = some b → (storeCells (b.add (n * i.size)) new.toList).run P w = .ok () w') (hnone : base = none → w' = w) :
    (Builtin.append_ #[t, u] ty #[.slice base n cap, y]).run P w = .ok (.slice base (n + m) cap) w' := by
  have hf := hnew w rfl
  cases base with
  | none =>
    rw [hnone rfl]
    simp only [Builtin.append_]
    simp [run_und ht, run_und hu, run_size hi, hm, hg, hf]
  | some b =>
    have hs := hst b rfl
    simp only [Builtin.append_]
    simp [run_und ht, run_und hu, run_size hi, hm, hg, hf, hs]

theorem getD_append_left {p q : Array Value} {i : Nat} (h : i < p.size) : (p ++ q).getD i undef = p.getD i undef := by
  simp [Array.getD, h, show i < p.size + q.size by omega]
theorem getD_append_right {p q : Array Value} {i : Nat} (h : p.size ≤ i) (h2 : i < p.size + q.size) : (p ++ q).getD i undef = q.getD (i - p.size) undef := by
  simp [Array.getD, h2, show i - p.size < q.size by omega]
  rw [Array.getElem_append_right h]

set_option maxHeartbeats 1000000 in
theorem does_append_sl {c : Call} {t u el : TypeId} {i : TypeInfo} {z : Value} {ud : TypeDesc} {x y : Operand} {cx cy : X} {v : V} {H' : Heap} (ho : o.op = .call c) (hc : c.callee = .builtin .append)
    (ha : c.argTypes.toList = [t, u]) (hb : c.args.toList = [x, y]) (ht : P.underlying t = some (.slice el)) (hu : P.underlying u = some ud) (hud : ∀ k, ud ≠ .int k) (hi : P.info? el = some i) (hz : i.zero = some z)
    (_hpos : i.size ≠ 0) (hzs : z.cells.size = i.size) (hx : stripX P x = some cx) (hy : stripX P y = some cy) (hI : HInv P Out ρ H w) (hE : ERel Out ρ H w e a)
    (hv : appendV i.size i.bytes H (cx.ev e) (cy.ev e) = some (v, H')) {m : Nat} {new : List V} (hsrc : srcCells H i.size (cy.ev e) = some (m, new)) {ex : Bool} {cs : List V} {n : Nat} (hcx : cx.ev e = .sl ex cs n) : Does P a o Out ρ H w v H' := by
  have hargs : c.args = #[x, y] := by apply Array.ext'; simpa using hb
  have htys : c.argTypes = #[t, u] := by apply Array.ext'; simpa using ha
  have hrx := stripX_rel hI hE hx
  have hry := stripX_rel hI hE hy
  have hex : ∀ r w', (Builtin.append_ #[t, u] o.type #[a.eval x, a.eval y]).run P w = .ok r w' → (execOp a.eval o).run P w = .ok (.value r) w' := by
    intro r w' hr
    simp only [execOp,ho,resolve,hc,hargs,htys,Sem.run_bind,invoke,builtin]
    simp [hr]
  unfold appendV at hv
  rw [hsrc, hcx] at hv
  simp only at hv
  rw [hcx] at hrx
  split at hv
  · rename_i hlens
    obtain ⟨hl1, hl2⟩ := hlens
    obtain ⟨hlen, arr, harr, hfirst, hrel⟩ := src_cells (P := P) hI hry hsrc
    split at hv
    · rename_i hm0
      cases hv
      subst hm0
      have harr0 : arr.toList = [] := by
        have : arr.size = 0 := by rw [harr, hl1]; simp
        simpa using this
      cases hav : a.eval x with
      | slice ad n' cap => ?_
      | _ => rw [hav] at hrx; cases hrx
      rw [hav] at hrx
      have hle : n' ≤ cap := by cases hrx <;> omega
      have hnn : n' = n := by cases hrx <;> rfl
      subst hnn
      exact Does.pure hI (hex _ _ (by
        rw [hav]
        exact run_append_fit ht hu hud hi hlen hfirst (by omega) (fun b _ => by rw [harr0]; simp [storeCells]) (fun _ => rfl))) hrx
    · rename_i hm0
      split at hv
      · rename_i hcond
        obtain ⟨hex1, hbytes, h63⟩ := hcond
        cases hv
        have hrx' := hrx
        cases hav : a.eval x with
        | slice ad n' cap => ?_
        | _ => rw [hav] at hrx; cases hrx
        rw [hav] at hrx
        have hread : readSl H.length H i.size (.sl ex cs n) = some (n, cs) := by simp [readSl, hl2]
        obtain ⟨_, ad2, cap2, f, hcv, hrelc, hm⟩ := readSl_cells hI hrx hread
        rw [hcv] at hav hrx
        have hcap : cap2 = n := by
          cases hrx with
          | sl _ _ _ _ _ _ _ _ _ _ _ h5 => exact h5 hex1
          | slnil => rfl
        subst hcap
        have hold : ∀ w', w'.heap = w.heap → (Builtin.firstCells i.size cap2 (.slice ad2 cap2 cap2)).run P w' = .ok ((Array.range cs.length).map f) w' := by
          intro w' hw'
          rcases hm with ⟨rfl, rfl, _⟩ | ⟨B, off, rfl, hcell⟩
          · have : cs.length = 0 := by omega
            rw [this]
            simp [Builtin.firstCells, Array.range_zero']
          · simp only [Builtin.firstCells]
            rw [← hl2, run_loadCells_at B off cs.length f (fun k hk => by rw [cell_of_block (w := w) (by rw [hw'])]; exact hcell k hk)]
        have hrun := run_append_new (ty := o.type) ht hu hud hi hz hlen hfirst hold (by omega) h63 hbytes
        have hw : ∀ q : Obj, (w.drew.alloc q).heap = w.heap.push q := fun _ => rfl
        have hcsl : (cs ++ new).length = (cap2 + m) * i.size := by rw [List.length_append, hl1, hl2, Nat.add_mul]
        have hge := grownCap_ge w (cap2 + m) cap2 el
        have hasz : ((Array.range cs.length).map f ++ arr ++ Builtin.zeroCells z.cells (grownCap w (cap2 + m) cap2 el - (cap2 + m))).size = grownCap w (cap2 + m) cap2 el * i.size := by
          simp only [Array.size_append,Array.size_map,Array.size_range,harr,size_zeroCells,hzs,Nat.sub_mul,hl1,hl2]
          have := Nat.mul_le_mul_right i.size hge
          rw [Nat.add_mul] at this ⊢
          omega
        refine ⟨ext ρ H.length w.heap.size, w.drew.alloc _, Tr.push (w' := w.drew.alloc _) hI _ _ rfl rfl rfl (hw _), HInv.push_cells (w' := w.drew.alloc _) hI rfl rfl rfl (hw _) ?_ ?_, .inl ⟨_, hex _ _ (by rw [hav]; exact hrun), ?_⟩⟩
        · rw [hasz, hcsl]; exact Nat.mul_le_mul_right _ hge
        · intro k hk
          have hk' := hk
          simp only [List.length_append] at hk'
          rw [getD_append_left (by simp only [Array.size_append,Array.size_map,Array.size_range,harr]; omega)]
          rcases Nat.lt_or_ge k cs.length with h1 | h1
          · rw [getD_append_left (by simpa using h1), List.getElem_append_left h1]
            have : ((Array.range cs.length).map f).getD k undef = f k := by simp [Array.getD, h1]
            rw [this]; exact hrelc k h1
          · rw [getD_append_right (by simpa using h1) (by simp [harr]; omega), List.getElem_append_right h1]
            simp only [Array.size_map,Array.size_range]
            exact hrel _ (by omega)
        · refine .view _ _ _ _ _ _ (by simp) (Nat.zero_le _) (fun _ => ⟨ext_at.symm, fun ar T fz har => ?_⟩) hge
          rw [ext_at, hw] at har
          simp only [Array.getElem?_push_size,Option.some.injEq,Obj.cells.injEq] at har
          obtain ⟨rfl, _, _⟩ := har
          have : eszOf (H ++ [HObj.cells 0 i.size true (cs ++ new)]) H.length = i.size := by simp [eszOf, HObj.esz]
          rw [this, hasz]; omega
      · cases hv
  · cases hv

set_option maxHeartbeats 1000000 in
theorem does_append_view {c : Call} {t u el : TypeId} {i : TypeInfo} {z : Value} {ud : TypeDesc} {x y : Operand} {cx cy : X} {v : V} {H' : Heap} (ho : o.op = .call c) (hc : c.callee = .builtin .append)
    (ha : c.argTypes.toList = [t, u]) (hb : c.args.toList = [x, y]) (ht : P.underlying t = some (.slice el)) (hu : P.underlying u = some ud) (hud : ∀ k, ud ≠ .int k) (hi : P.info? el = some i) (hz : i.zero = some z)
    (_hpos : i.size ≠ 0) (hzs : z.cells.size = i.size) (hx : stripX P x = some cx) (hy : stripX P y = some cy) (hI : HInv P Out ρ H w) (hE : ERel Out ρ H w e a)
    (hv : appendV i.size i.bytes H (cx.ev e) (cy.ev e) = some (v, H')) {m : Nat} {new : List V} (hsrc : srcCells H i.size (cy.ev e) = some (m, new)) {k g off n : Nat} (hcx : cx.ev e = .view k g off n) : Does P a o Out ρ H w v H' := by
  have hargs : c.args = #[x, y] := by apply Array.ext'; simpa using hb
  have htys : c.argTypes = #[t, u] := by apply Array.ext'; simpa using ha
  have hrx := stripX_rel hI hE hx
  have hry := stripX_rel hI hE hy
  have hex : ∀ r w', (Builtin.append_ #[t, u] o.type #[a.eval x, a.eval y]).run P w = .ok r w' → (execOp a.eval o).run P w = .ok (.value r) w' := by
    intro r w' hr
    simp only [execOp,ho,resolve,hc,hargs,htys,Sem.run_bind,invoke,builtin]
    simp [hr]
  unfold appendV at hv
  rw [hsrc, hcx] at hv
  simp only at hv
  rw [hcx] at hrx
  split at hv
  · rename_i hl1
    obtain ⟨hlen, arr, harr, hfirst, hrel⟩ := src_cells (P := P) hI hry hsrc
    cases hav : a.eval x with
    | slice ad n' cap => ?_
    | _ => rw [hav] at hrx; cases hrx
    rw [hav] at hrx
    have hrx0 := hrx
    cases hrx with
    | view _ _ _ _ B _ hk hg hB hle =>
    split at hv
    · rename_i hm0
      cases hv
      subst hm0
      have harr0 : arr.toList = [] := by
        have : arr.size = 0 := by rw [harr, hl1]; simp
        simpa using this
      exact Does.pure hI (hex _ _ (by
        rw [hav]
        exact run_append_fit ht hu hud hi hlen hfirst (by omega) (fun b _ => by rw [harr0]; simp [storeCells]) (fun h => by cases h))) hrx0
    · rename_i hm0
      split at hv
      · rename_i g' e' cs hget
        split at hv
        · rename_i hcond
          obtain ⟨rfl, rfl, rfl, hncs, hbytes, h63, hcell⟩ := hcond
          cases hv
          obtain ⟨rfl, hcapb⟩ := hB (by simp [genOf, hget, HObj.gen])
          obtain ⟨blk, T, h4, h5, h6⟩ := hI.cells k _ _ _ _ hget
          have hcapb := hcapb _ _ _ h4
          have hesz : eszOf H k = i.size := by simp [eszOf, hget, HObj.esz]
          rw [hesz, Nat.zero_add] at hcapb
          have htake : (cs.take (n * i.size)).length = n * i.size := by simp; omega
          have hcsl : (cs.take (n * i.size) ++ new).length = (n + m) * i.size := by rw [List.length_append, hl1, htake, Nat.add_mul]
          have hk2 := getElem?_lt hget
          have hesz' : eszOf (H.set k (.cells (g + 1) i.size true (cs.take (n * i.size) ++ new))) k = i.size := by simp [eszOf, List.getElem?_set_self hk2, HObj.esz]
          have hgen' : genOf (H.set k (.cells (g + 1) i.size true (cs.take (n * i.size) ++ new))) k = g + 1 := by simp [genOf, List.getElem?_set_self hk2, HObj.gen]
          rcases Nat.lt_or_ge cap (n + m) with hroom | hroom
          · -- a new array
            have hold : ∀ w', w'.heap = w.heap → (Builtin.firstCells i.size n (.slice (some ⟨ρ k, 0, none⟩) n cap)).run P w' = .ok ((Array.range (n * i.size)).map fun j => blk.getD j undef) w' := by
              intro w' hw'
              simp only [Builtin.firstCells]
              rw [run_loadCells_at (ρ k) 0 (n * i.size) (fun j => blk.getD j undef) (fun j hj => by
                rw [cell_of_block (w := w) (by rw [hw'])]
                simp only [World.cell?,h4,Nat.zero_add]
                simp [Array.getD, show j < blk.size by omega])]
            have hrun := run_append_new (ty := o.type) ht hu hud hi hz hlen hfirst hold hroom h63 hbytes
            have hw : ∀ q : Obj, (w.drew.alloc q).heap = w.heap.push q := fun _ => rfl
            have hge := grownCap_ge w (n + m) cap el
            have hasz : ((Array.range (n * i.size)).map (fun j => blk.getD j undef) ++ arr ++ Builtin.zeroCells z.cells (grownCap w (n + m) cap el - (n + m))).size = grownCap w (n + m) cap el * i.size := by
              simp only [Array.size_append,Array.size_map,Array.size_range,harr,size_zeroCells,hzs,Nat.sub_mul,hl1]
              have := Nat.mul_le_mul_right i.size hge
              rw [Nat.add_mul] at this ⊢
              omega
            obtain ⟨t', hI'⟩ := move_cells (w' := w.drew.alloc _) (cs' := cs.take (n * i.size) ++ new) hI hget rfl rfl rfl (hw (.cells ((Array.range (n * i.size)).map (fun j => blk.getD j undef) ++ arr ++ Builtin.zeroCells z.cells (grownCap w (n + m) cap el - (n + m))) el))
              (by rw [hasz, hcsl]; exact Nat.mul_le_mul_right _ hge) (fun j hj => by
                have hj' := hj
                rw [hcsl, Nat.add_mul] at hj'
                rw [getD_append_left (by simp only [Array.size_append,Array.size_map,Array.size_range,harr]; omega)]
                rcases Nat.lt_or_ge j (n * i.size) with h1 | h1
                · rw [getD_append_left (by simpa using h1), List.getElem_append_left (by omega)]
                  have : ((Array.range (n * i.size)).map (fun j => blk.getD j undef)).getD j undef = blk.getD j undef := by simp [Array.getD, h1]
                  rw [this, List.getElem_take]
                  exact h6 j (by omega)
                · rw [getD_append_right (by simpa using h1) (by simp [harr]; omega), List.getElem_append_right (by omega)]
                  simp only [Array.size_map,Array.size_range,htake]
                  exact hrel _ (by omega))
            refine ⟨_, _, t', hI', .inl ⟨_, hex _ _ (by rw [hav]; exact hrun), ?_⟩⟩
            refine .view _ _ _ _ _ _ (by simpa using hk2) (by rw [hgen']; exact Nat.le_refl _) (fun _ => ⟨by simp [ext], fun ar T' fz har => ?_⟩) hge
            have hex' : ext ρ k w.heap.size k = w.heap.size := by simp [ext]
            rw [hex', hw] at har
            simp only [Array.getElem?_push_size,Option.some.injEq,Obj.cells.injEq] at har
            obtain ⟨rfl, _, _⟩ := har
            rw [hesz', hasz]; omega
          · -- in place
            have hmul : (n + m) * i.size ≤ cap * i.size := Nat.mul_le_mul_right _ hroom
            rw [Nat.add_mul] at hmul
            obtain ⟨arr', s1, s2, s3⟩ := run_storeCells (P := P) (B := ρ k) (o := n * i.size) (T := T) arr.toList 0 w blk h4 (fun q hq => by
              obtain ⟨j, hj, rfl⟩ := List.mem_iff_getElem.1 hq
              have hj' : j < new.length := by simpa [harr] using hj
              have hh := (hrel j hj').storable (all_get hcell hj')
              have hgd : arr.getD j undef = arr.toList[j] := by simp [Array.getD, show j < arr.size by omega]
              rw [hgd] at hh
              exact hh) (by simp [harr, hl1]; omega)
            obtain ⟨t', hI'⟩ := set_cells (w' := { w with heap := w.heap.set! (ρ k) (.cells arr' T (0, 0)) }) (cs' := cs.take (n * i.size) ++ new) hI hget rfl h4 (Nat.le_succ g) rfl rfl rfl rfl s2
              (by rw [hcsl, s2, Nat.add_mul]; omega) (fun j hj => by
                have hj' := hj
                rw [hcsl, Nat.add_mul] at hj'
                rw [s3]
                rcases Nat.lt_or_ge j (n * i.size) with h1 | h1
                · rw [if_neg (by omega), List.getElem_append_left (by omega), List.getElem_take]
                  exact h6 j (by omega)
                · rw [if_pos (by simp [harr, hl1]; omega), List.getElem_append_right (by omega)]
                  simp only [htake,Nat.add_zero]
                  have := hrel (j - n * i.size) (by omega)
                  have hgd : arr.getD (j - n * i.size) undef = arr.toList.getD (j - n * i.size) undef := by
                    simp [Array.getD, List.getD, show j - n * i.size < arr.size by omega]
                  rw [hgd] at this
                  exact this)
            have hrun := run_append_fit (ty := o.type) ht hu hud hi (base := some ⟨ρ k, 0, none⟩) (n := n) hlen hfirst hroom (w' := { w with heap := w.heap.set! (ρ k) (.cells arr' T (0, 0)) }) (fun b hb => by
              cases hb
              rw [addr_add, Nat.zero_add]
              exact s1) (fun h => by cases h)
            refine ⟨ρ, _, t', hI', .inl ⟨_, hex _ _ (by rw [hav]; exact hrun), ?_⟩⟩
            refine .view _ _ _ _ _ _ (by simpa using hk2) (by rw [hgen']; exact Nat.le_refl _) (fun _ => ⟨rfl, fun ar T' fz har => ?_⟩) hroom
            have hB' := (hI.lt k hk2).1
            simp only [Array.set!_eq_setIfInBounds,Array.getElem?_setIfInBounds,if_pos hB',if_true,Option.some.injEq,Obj.cells.injEq] at har
            obtain ⟨rfl, _, _⟩ := har
            rw [hesz', s2]; omega
        · cases hv
      · cases hv
  · cases hv

theorem does_append {c : Call} {t u el : TypeId} {i : TypeInfo} {z : Value} {ud : TypeDesc} {x y : Operand} {cx cy : X} {v : V} {H' : Heap} (ho : o.op = .call c) (hc : c.callee = .builtin .append)
    (ha : c.argTypes.toList = [t, u]) (hb : c.args.toList = [x, y]) (ht : P.underlying t = some (.slice el)) (hu : P.underlying u = some ud) (hud : ∀ k, ud ≠ .int k) (hi : P.info? el = some i) (hz : i.zero = some z)
    (_hpos : i.size ≠ 0) (hzs : z.cells.size = i.size) (hx : stripX P x = some cx) (hy : stripX P y = some cy) (hI : HInv P Out ρ H w) (hE : ERel Out ρ H w e a)
    (hv : appendV i.size i.bytes H (cx.ev e) (cy.ev e) = some (v, H')) : Does P a o Out ρ H w v H' := by
  cases hsrc : srcCells H i.size (cy.ev e) with
  | none => unfold appendV at hv; rw [hsrc] at hv; cases hv
  | some p =>
    obtain ⟨m, new⟩ := p
    cases hcx : cx.ev e with
    | sl ex cs n => exact does_append_sl ho hc ha hb ht hu hud hi hz _hpos hzs hx hy hI hE hv hsrc hcx
    | view k g off n => exact does_append_view ho hc ha hb ht hu hud hi hz _hpos hzs hx hy hI hE hv hsrc hcx
    | _ => unfold appendV at hv; rw [hsrc, hcx] at hv; cases hv

/-! ### Maps -/
theorem bytes_beq (s t : ByteArray) : (s == t) = (s.data.toList == t.data.toList) := by
  have h : (s == t) = (s.data == t.data) := by cases s; cases t; rfl
  rw [h, Bool.eq_iff_iff]
  constructor
  · intro h
    have : s.data = t.data := by simpa using h
    rw [this]; simp
  · intro h
    have h1 : s.data.toList = t.data.toList := by simpa using h
    rw [Array.ext' h1]; simp
theorem run_getObj {B clock : Nat} {arr : Array MapEntry} (h : w.heap[B]? = some (.map arr clock)) : (getObj B).run P w = .ok (.map arr clock) w := by simp [getObj, Sem.run, h]
theorem run_setObj {B clock : Nat} {arr : Array MapEntry} {x : Obj} (h : w.heap[B]? = some (.map arr clock)) : (setObj B x).run P w = .ok () { w with heap := w.heap.set! B x } := by simp [setObj, Sem.run, h]

theorem keyOf_inv {t : TypeId} {c : Nat} (h : keyOf P t = some c) : ∃ kt el d, P.underlying t = some (.map kt el) ∧ P.underlying kt = some d ∧ keyCls d = some c := by
  simp only [keyOf,Option.bind_eq_bind,Option.bind_eq_some_iff] at h
  obtain ⟨d, hd, h⟩ := h
  split at h
  · simp only [Option.bind_eq_some_iff] at h
    obtain ⟨d', hd', h⟩ := h
    exact ⟨_, _, d', hd, hd', h⟩
  · cases h

theorem run_checkKey {em : Bool} {t : TypeId} {d : TypeDesc} {c : Nat} (hd : P.underlying t = some d) (hk : keyCls d = some c) (v : Value) : (Instr.checkKey em 10000 t v).run P w = .ok () w := by
  show (Instr.checkKey em (9999 + 1) t v).run P w = _
  rw [Instr.checkKey]
  simp only [Sem.run_bind,run_und hd,Result.andThen_ok]
  cases d <;> simp [keyCls] at hk <;> cases v <;> rfl

theorem sameNow_eq {d : TypeDesc} {c : Nat} (hd : keyCls d = some c) {k a : V} {x y : Value} {b : Bool} (hk : Rel ρ H Bad w k x) (ha : Rel ρ H Bad w a y) (h : keyEq c k a = some b) : Instr.sameNow d x y = some b := by
  unfold keyEq at h
  split at h
  · cases hk; cases ha
    split at h
    · rename_i hkk
      subst hkk
      cases h
      cases d <;> simp [keyCls] at hd
      simp [Instr.sameNow]
    · cases h
  · cases hk; cases ha
    cases h
    cases d <;> simp [keyCls] at hd
    simp only [Instr.sameNow,bytes_beq]
  · cases hk; cases ha
    cases h
    cases d <;> simp [keyCls] at hd
    rfl
  · cases h

theorem sameBits_of {c : Nat} {k a : V} {x y : Value} (hk : Rel ρ H Bad w k x) (ha : Rel ρ H Bad w a y) (h : keyEq c k a = some true) : Instr.sameBits 10000 y x = true := by
  unfold keyEq at h
  split at h
  · cases hk; cases ha
    split at h
    · rename_i hkk
      subst hkk
      simp only [Option.some.injEq,beq_iff_eq] at h
      subst h
      simp [Instr.sameBits]
    · cases h
  · cases hk; cases ha
    simp only [Option.some.injEq,beq_iff_eq] at h
    rename_i s1 s2
    simp [Instr.sameBits, bytes_beq, h]
  · cases hk; cases ha
    simp only [Option.some.injEq,beq_iff_eq] at h
    subst h
    simp [Instr.sameBits]
  · cases h

theorem findNow_eq {d : TypeDesc} {c : Nat} (hd : keyCls d = some c) {k : V} {x : Value} (hk : Rel ρ H Bad w k x) : ∀ (es : List (V × V)) (l : List MapEntry) (i : Nat) (r : Option (Nat × V)), l.length = es.length →
    (∀ j (h : j < es.length) (h' : j < l.length), Rel ρ H Bad w es[j].1 l[j].key ∧ Rel ρ H Bad w es[j].2 l[j].val) → findE c k es i = some r →
    (r = none ∧ Instr.findNow d x l i = some none) ∨ ∃ m v y, r = some (i + m, v) ∧ Instr.findNow d x l i = some (some (i + m, y)) ∧ Rel ρ H Bad w v y ∧ m < es.length ∧ ∀ (h' : m < l.length), Instr.sameBits 10000 l[m].key x = true
  | [], l, i, r, hl, _, h => by
    have : l = [] := List.length_eq_zero_iff.1 hl
    subst this
    cases h
    exact .inl ⟨rfl, rfl⟩
  | (a, v) :: es, l, i, r, hl, hr, h => by
    cases l with
    | nil => simp at hl
    | cons q l =>
      have h0 := hr 0 (by simp) (by simp)
      simp only [List.getElem_cons_zero] at h0
      simp only [findE] at h
      simp only [Instr.findNow]
      split at h
      · rename_i hq
        cases h
        rw [sameNow_eq hd hk h0.1 hq]
        exact .inr ⟨0, v, q.val, rfl, rfl, h0.2, by simp, fun _ => sameBits_of hk h0.1 hq⟩
      · rename_i hq
        rw [sameNow_eq hd hk h0.1 hq]
        rcases findNow_eq hd hk es l (i + 1) r (by simpa using hl) (fun j h1 h2 => by
          have := hr (j + 1) (by simp; omega) (by simp; omega)
          simpa using this) h with ⟨h1, h2⟩ | ⟨m, v', y, h1, h2, h3, h4, h5⟩
        · exact .inl ⟨h1, h2⟩
        · refine .inr ⟨m + 1, v', y, by rw [h1]; congr 2; omega, by simp only; rw [h2]; congr 3; omega, h3, by simp; omega, fun h' => ?_⟩
          simpa using h5 (by simp at h'; omega)
      · cases h

theorem run_findKey {kt : TypeId} {d : TypeDesc} (hu : P.underlying kt = some d) {x : Value} {l : List MapEntry} {r : Option (Nat × Value)} (h : Instr.findNow d x l 0 = some r) :
    (Instr.findKey kt x l).run P w = .ok r w := by
  simp only [Instr.findKey,Sem.run_bind,run_und hu,Result.andThen_ok]
  rw [h]
  rfl

theorem mp_inv {j : Nat} {es : List (V × V)} {c : Value} (h : Rel ρ H Bad w (.mp j) c) (hk : H[j]? = some (.map es)) : c = .map (some (ρ j)) := by
  cases h with
  | mp _ B h1 h2 => rw [h2 (by simp [genOf, hk, HObj.gen])]

theorem does_mkmap {t : TypeId} (ho : o.op = .makeMap t none) (hI : HInv P Out ρ H w) : Does P a o Out ρ H w (.mp H.length) (H ++ [.map []]) := by
  refine ⟨ext ρ H.length w.heap.size, { w with heap := w.heap.push (.map #[] 0) }, Tr.push hI _ _ rfl rfl rfl rfl, HInv.push_map hI rfl rfl rfl rfl, .inl ⟨.map (some w.heap.size), ?_, ?_⟩⟩
  · simp [execOp, ho, Instr.makeMap, newObj, Sem.run]
  · exact .mp _ _ (by simp) (fun _ => ext_at.symm)

theorem got_rel {ok : Bool} {zero : V} {z : Value} (hz : Rel ρ H Bad w zero z) {r : Option (Nat × V)} {q : Option (Nat × Value)} (h : (r = none ∧ q = none) ∨ ∃ m v y, r = some (m, v) ∧ q = some (m, y) ∧ Rel ρ H Bad w v y) :
    Rel ρ H Bad w (gotV ok zero r) (match q with | some (_, y) => if ok = true then .tuple #[y, .bool true] else y | none => if ok = true then .tuple #[z, .bool false] else z) := by
  have two : ∀ {v : V} {y : Value} {b : Bool}, Rel ρ H Bad w v y → Rel ρ H Bad w (.tup [v, .bool b]) (.tuple #[y, .bool b]) := fun {v y b} h => .tup _ _ rfl fun i hi => by
    match i, hi with
    | 0, _ => exact h
    | 1, _ => exact .bool _
  rcases h with ⟨rfl, rfl⟩ | ⟨m, v, y, rfl, rfl, h⟩
  · simp only [gotV]
    cases ok
    · exact hz
    · exact two hz
  · simp only [gotV]
    cases ok
    · exact h
    · exact two h

theorem does_lookup {t : TypeId} {x k : Operand} {ok : Bool} {cx ck : X} {c : Nat} {z : V} {v : V} {H' : Heap} (ho : o.op = .lookup t x k ok) (hc : keyOf P t = some c) (hz : zeroOf P t = some z) (hx : stripX P x = some cx) (hk : stripX P k = some ck)
    {lim : Nat} (hI : HInv P Out ρ H w) (hE : ERel Out ρ H w e a) (hs : stepO lim (.lookup c ok z cx ck) e H = some (v, H')) : Does P a o Out ρ H w v H' := by
  obtain ⟨kt, el, d, h1, h2, h3⟩ := keyOf_inv hc
  simp only [zeroOf,Option.bind_eq_bind,Option.bind_eq_some_iff] at hz
  obtain ⟨dd, hd, hz⟩ := hz
  rw [h1] at hd
  cases hd
  simp only [Option.bind_eq_some_iff] at hz
  obtain ⟨i, hi, zv, hzv, hz⟩ := hz
  have hzr : Rel ρ H (BadIn Out ρ H) w z zv := constV_rel hz
  have hrx := stripX_rel hI hE hx
  have hrk := stripX_rel hI hE hk
  simp only [stepO] at hs
  split at hs
  · rename_i hm
    cases hs
    rw [hm] at hrx
    cases hxv : a.eval x with
    | map q => ?_
    | _ => rw [hxv] at hrx; cases hrx
    rw [hxv] at hrx
    cases hrx
    refine Does.pure hI (c := if ok = true then .tuple #[zv, .bool false] else zv) ?_ (got_rel (ok := ok) (zero := z) hzr (.inl ⟨rfl, rfl⟩))
    simp [execOp, ho, hxv, Instr.lookup, run_und h1, run_checkKey h2 h3, run_findKey h2 (x := a.eval k) (l := []) rfl, run_zero hi hzv]
  · rename_i j hm
    split at hs
    · rename_i es hH
      obtain ⟨r, hr, hp⟩ := Option.map_eq_some_iff.1 hs
      cases hp
      rw [hm] at hrx
      have hxv := mp_inv hrx hH
      obtain ⟨arr, clock, m1, m2, m3⟩ := hI.map j es hH
      rcases findNow_eq h3 hrk es arr.toList 0 r m2 m3 hr with ⟨rfl, hf⟩ | ⟨m, v, y, rfl, hf, hv, _, _⟩
      · refine Does.pure hI (c := if ok = true then .tuple #[zv, .bool false] else zv) ?_ (got_rel (ok := ok) (zero := z) hzr (.inl ⟨rfl, rfl⟩))
        simp [execOp, ho, hxv, Instr.lookup, run_und h1, run_checkKey h2 h3, run_findKey h2 hf, run_zero hi hzv, run_getObj m1]
      · refine Does.pure hI (c := if ok = true then .tuple #[y, .bool true] else y) ?_ (got_rel (ok := ok) (zero := z) hzr (.inr ⟨0 + m, v, y, rfl, rfl, hv⟩))
        simp [execOp, ho, hxv, Instr.lookup, run_und h1, run_checkKey h2 h3, run_findKey h2 hf, run_getObj m1]
    · cases hs
  · cases hs

theorem does_mapset {t : TypeId} {x k y : Operand} {cx ck cy : X} {c : Nat} {v : V} {H' : Heap} (ho : o.op = .mapUpdate t x k y ∨ o.op = .insert t x k y) (hc : keyOf P t = some c) (hx : stripX P x = some cx) (hk : stripX P k = some ck) (hy : stripX P y = some cy)
    {lim : Nat} (hI : HInv P Out ρ H w) (hE : ERel Out ρ H w e a) (hs : stepO lim (.mapset c cx ck cy) e H = some (v, H')) : Does P a o Out ρ H w v H' := by
  obtain ⟨kt, el, d, h1, h2, h3⟩ := keyOf_inv hc
  have hrx := stripX_rel hI hE hx
  have hrk := stripX_rel hI hE hk
  have hry := stripX_rel hI hE hy
  simp only [stepO] at hs
  split at hs
  · rename_i j hm
    split at hs
    · rename_i es hH
      obtain ⟨r, hr, hp⟩ := Option.map_eq_some_iff.1 hs
      cases hp
      rw [hm] at hrx
      have hxv := mp_inv hrx hH
      obtain ⟨arr, clock, m1, m2, m3⟩ := hI.map j es hH
      rcases findNow_eq h3 hrk es arr.toList 0 r m2 m3 hr with ⟨rfl, hf⟩ | ⟨m, v, u, rfl, hf, hv, hlt, hsame⟩
      · obtain ⟨t1, hI1⟩ := set_map (es' := es ++ [(ck.ev e, cy.ev e)]) (arr' := arr.push { key := a.eval k, val := a.eval y, born := clock }) (clock' := clock + 1) (w' := { w with heap := w.heap.set! (ρ j) (.map (arr.push { key := a.eval k, val := a.eval y, born := clock }) (clock + 1)) })
          hI hH m1 rfl rfl rfl rfl (by simpa using m2) (fun i hi hi' => by
            rcases Nat.lt_or_ge i es.length with hlt | hge
            · rw [List.getElem_append_left hlt]
              have : (arr.push { key := a.eval k, val := a.eval y, born := clock }).toList[i] = arr.toList[i]'(by omega) := by
                simp only [Array.toList_push]
                rw [List.getElem_append_left (by omega)]
              rw [this]
              exact m3 i hlt (by omega)
            · have hie : i = es.length := by simp at hi; omega
              subst hie
              have : (arr.push { key := a.eval k, val := a.eval y, born := clock }).toList[es.length] = { key := a.eval k, val := a.eval y, born := clock } := by
                simp only [Array.toList_push]
                rw [List.getElem_append_right (by omega)]
                simp [m2]
              rw [this, List.getElem_append_right (by omega)]
              simp only [Nat.sub_self,List.getElem_cons_zero]
              exact ⟨hrk, hry⟩)
        refine ⟨ρ, _, t1, hI1, .inr ⟨?_, rfl⟩⟩
        rcases ho with ho | ho <;> simp [execOp, ho, hxv, Instr.mapUpdate, run_und h1, run_checkKey h2 h3, run_findKey h2 hf, run_getObj m1, run_setObj m1]
      · have hlt' : m < arr.toList.length := by omega
        have hat : arr[m]? = some arr.toList[m] := by
          rw [← Array.getElem?_toList, List.getElem?_eq_getElem hlt']
        have hsb := hsame hlt'
        obtain ⟨t1, hI1⟩ := set_map (es' := es.set m (ck.ev e, cy.ev e)) (arr' := arr.modify m fun q => { q with key := a.eval k, val := a.eval y }) (clock' := clock) (w' := { w with heap := w.heap.set! (ρ j) (.map (arr.modify m fun q => { q with key := a.eval k, val := a.eval y }) clock) })
          hI hH m1 rfl rfl rfl rfl (by simpa using m2) (fun i hi hi' => by
            have hi2 : i < es.length := by simpa using hi
            have hi3 : i < arr.toList.length := by omega
            by_cases him : i = m
            · subst him
              have : (arr.modify i fun q => { q with key := a.eval k, val := a.eval y }).toList[i] = { arr.toList[i] with key := a.eval k, val := a.eval y } := by
                simp [Array.getElem_modify]
              rw [this, List.getElem_set_self]
              exact ⟨hrk, hry⟩
            · have : (arr.modify m fun q => { q with key := a.eval k, val := a.eval y }).toList[i] = arr.toList[i] := by
                simp [Array.getElem_modify, Ne.symm him]
              rw [this, List.getElem_set_ne (Ne.symm him)]
              exact m3 i hi2 hi3)
        simp only [Nat.zero_add] at hf
        have hms : m < arr.size := by simpa using hlt'
        have hsb' : Instr.sameBits 10000 arr[m].key (a.eval k) = true := by simpa using hsb
        have hks : (Instr.keyThatStays arr[m].key (a.eval k)).run P w = .ok (a.eval k) w := by simp only [Instr.keyThatStays,hsb',if_true]; rfl
        have hat' : arr[m]? = some arr[m] := by simp [hms]
        refine ⟨ρ, _, by simpa [putE] using t1, by simpa [putE] using hI1, .inr ⟨?_, rfl⟩⟩
        rcases ho with ho | ho <;> simp [execOp, ho, hxv, Instr.mapUpdate, run_und h1, run_checkKey h2 h3, run_findKey h2 hf, run_getObj m1, run_setObj m1, hat', hks, -Array.getElem?_eq_getElem]
    · cases hs
  · cases hs

theorem does_mapdel {cl : Call} {t : TypeId} {ts : List TypeId} {x k : Operand} {cx ck : X} {c : Nat} {v : V} {H' : Heap} (ho : o.op = .call cl) (hcl : cl.callee = .builtin .delete) (hat : cl.argTypes.toList = t :: ts) (hax : cl.args.toList = [x, k]) (hc : keyOf P t = some c) (hx : stripX P x = some cx) (hk : stripX P k = some ck)
    {lim : Nat} (hI : HInv P Out ρ H w) (hE : ERel Out ρ H w e a) (hs : stepO lim (.mapdel c cx ck) e H = some (v, H')) : Does P a o Out ρ H w v H' := by
  obtain ⟨kt, el, d, h1, h2, h3⟩ := keyOf_inv hc
  have hargs : cl.args = #[x, k] := by apply Array.ext'; simpa using hax
  have hty : cl.argTypes[0]? = some t := by rw [← Array.getElem?_toList, hat]; rfl
  have hex : ∀ w', (Builtin.delete_ cl.argTypes o.type #[a.eval x, a.eval k]).run P w = .ok (.tuple #[]) w' → (execOp a.eval o).run P w = .ok (.value (.tuple #[])) w' := by
    intro w' hr
    simp only [execOp,ho,resolve,hcl,hargs,Sem.run_bind,invoke,builtin]
    simp [hr]
  have hrx := stripX_rel hI hE hx
  have hrk := stripX_rel hI hE hk
  simp only [stepO] at hs
  split at hs
  · rename_i j hm
    split at hs
    · rename_i es hH
      obtain ⟨r, hr, hp⟩ := Option.map_eq_some_iff.1 hs
      cases hp
      rw [hm] at hrx
      have hxv := mp_inv hrx hH
      obtain ⟨arr, clock, m1, m2, m3⟩ := hI.map j es hH
      rcases findNow_eq h3 hrk es arr.toList 0 r m2 m3 hr with ⟨rfl, hf⟩ | ⟨m, v, u, rfl, hf, hv, hlt, hsame⟩
      · obtain ⟨t1, hI1⟩ := set_map (es' := es) (arr' := arr) (clock' := clock) (w' := { w with heap := w.heap.set! (ρ j) (.map arr clock) }) hI hH m1 rfl rfl rfl rfl m2 m3
        refine ⟨ρ, _, t1, hI1, .inl ⟨.tuple #[], hex _ ?_, .tup [] #[] rfl (fun i hi => by simp at hi)⟩⟩
        simp [Builtin.delete_, hty, hxv, run_und h1, run_checkKey h2 h3, run_findKey h2 hf, run_getObj m1, run_setObj m1]
      · have hlt' : m < arr.toList.length := by omega
        obtain ⟨t1, hI1⟩ := set_map (es' := es.eraseIdx m) (arr' := arr.eraseIdxIfInBounds m) (clock' := clock) (w' := { w with heap := w.heap.set! (ρ j) (.map (arr.eraseIdxIfInBounds m) clock) }) hI hH m1 rfl rfl rfl rfl
          (by rw [Array.toList_eraseIdxIfInBounds, List.length_eraseIdx, List.length_eraseIdx, m2]) (fun i hi hi' => by
            have e1 : (arr.eraseIdxIfInBounds m).toList[i] = (arr.toList.eraseIdx m)[i]'(by rw [Array.toList_eraseIdxIfInBounds] at hi'; exact hi') := by
              congr 1
              exact Array.toList_eraseIdxIfInBounds ..
            rw [e1, List.getElem_eraseIdx, List.getElem_eraseIdx]
            rw [List.length_eraseIdx] at hi
            split
            · exact m3 i (by omega) (by omega)
            · exact m3 (i + 1) (by split at hi <;> omega) (by split at hi <;> omega))
        refine ⟨ρ, _, by simpa [delE] using t1, by simpa [delE] using hI1, .inl ⟨.tuple #[], hex _ ?_, .tup [] #[] rfl (fun i hi => by simp at hi)⟩⟩
        simp [Builtin.delete_, hty, hxv, run_und h1, run_checkKey h2 h3, run_findKey h2 hf, run_getObj m1, run_setObj m1]
    · cases hs
  · cases hs

theorem does_mlen {cl : Call} {t kt el : TypeId} {x : Operand} {cx : X} {v : V} {H' : Heap} (ho : o.op = .call cl) (hcl : cl.callee = .builtin .len) (hat : cl.argTypes.toList = [t]) (hax : cl.args.toList = [x]) (ht : P.underlying t = some (.map kt el)) (hx : stripX P x = some cx)
    {lim : Nat} (hI : HInv P Out ρ H w) (hE : ERel Out ρ H w e a) (hs : stepO lim (.mlen cx) e H = some (v, H')) : Does P a o Out ρ H w v H' := by
  have hargs : cl.args = #[x] := by apply Array.ext'; simpa using hax
  have htys : cl.argTypes = #[t] := by apply Array.ext'; simpa using hat
  have hex : ∀ n, (Builtin.len_ #[t] o.type #[a.eval x]).run P w = .ok (goInt n) w → (execOp a.eval o).run P w = .ok (.value (.int .i64 n)) w := by
    intro n hn
    simp only [execOp,ho,resolve,hcl,hargs,htys,Sem.run_bind,invoke,builtin]
    simp [hn, goInt]
  have hrx := stripX_rel hI hE hx
  simp only [stepO] at hs
  split at hs
  · rename_i hm
    cases hs
    rw [hm] at hrx
    cases hxv : a.eval x with
    | map q => ?_
    | _ => rw [hxv] at hrx; cases hrx
    rw [hxv] at hrx
    cases hrx
    exact Does.pure hI (hex 0 (by simp [Builtin.len_, run_und ht, hxv])) (.int _ _)
  · rename_i j hm
    split at hs
    · rename_i es hH
      cases hs
      rw [hm] at hrx
      have hxv := mp_inv hrx hH
      obtain ⟨arr, clock, m1, m2, m3⟩ := hI.map j es hH
      have : arr.size = es.length := by simpa using m2
      exact Does.pure hI (hex es.length (by simp [Builtin.len_, run_und ht, hxv, run_getObj m1, this])) (.int _ _)
    · cases hs
  · cases hs

theorem zeroCells_get (z : Array Value) (n i : Nat) (h : i < n * z.size) (hz : 0 < z.size) : (Builtin.zeroCells z n).getD i undef = z.getD (i % z.size) undef := by
  have hm := Nat.mod_lt i hz
  unfold Builtin.zeroCells
  simp only [Array.getD,Array.size_map,Array.size_range,h,dif_pos,hm,Array.getInternal_eq_getElem,Array.getElem_map,Array.getElem_range]
  rw [getElem!_pos z (i % z.size) hm]

theorem does_clear {cl : Call} {t : TypeId} {x : Operand} {cx : X} {p : Nat × List V} {v : V} {H' : Heap} (ho : o.op = .call cl) (hcl : cl.callee = .builtin .clear) (hat : cl.argTypes.toList = [t]) (hax : cl.args.toList = [x]) (hp : clearOf P t = some p) (hx : stripX P x = some cx)
    {lim : Nat} (hI : HInv P Out ρ H w) (hE : ERel Out ρ H w e a) (hs : stepO lim (.clear p.1 p.2 cx) e H = some (v, H')) : Does P a o Out ρ H w v H' := by
  have hargs : cl.args = #[x] := by apply Array.ext'; simpa using hax
  have htys : cl.argTypes = #[t] := by apply Array.ext'; simpa using hat
  have hex : ∀ w', (Builtin.clear_ #[t] o.type #[a.eval x]).run P w = .ok (.tuple #[]) w' → (execOp a.eval o).run P w = .ok (.value (.tuple #[])) w' := by
    intro w' hr
    simp only [execOp,ho,resolve,hcl,hargs,htys,Sem.run_bind,invoke,builtin]
    simp [hr]
  simp only [clearOf,Option.bind_eq_bind,Option.bind_eq_some_iff] at hp
  obtain ⟨d, hd, hp⟩ := hp
  split at hp
  · rename_i el
    simp only [Option.bind_eq_some_iff] at hp
    obtain ⟨i, hi, z, hz, hp⟩ := hp
    split at hp
    · rename_i hzs
      cases hp
      obtain ⟨i', zv, hi', hzv, hzc, hzr⟩ := zero_rel (ρ := ρ) (H := H) (Bad := BadIn Out ρ H) (w := w) hz
      rw [hi] at hi'
      cases hi'
      have hrx := stripX_rel hI hE hx
      simp only [stepO] at hs
      split at hs
      · rename_i k g off n hm
        split at hs
        · rename_i g' e' cs hH
          split at hs
          · rename_i hcond
            obtain ⟨rfl, rfl, hn, hl⟩ := hcond
            cases hs
            rw [hm] at hrx
            cases hxv : a.eval x with
            | slice ad n' cap => ?_
            | _ => rw [hxv] at hrx; cases hrx
            rw [hxv] at hrx
            cases hrx with
            | view _ _ _ _ B _ g1 g2 g3 g4 =>
            obtain ⟨hB, _⟩ := g3 (by simp [genOf, hH, HObj.gen])
            subst hB
            have hnl : (List.replicate n z).flatten.length = n * i.size := by rw [flatten_length, hzs.1]
            have hz0 : 0 < z.length := by omega
            obtain ⟨w', s1, s2, s3⟩ := store_cells (P := P) (off := off) (new := (List.replicate n z).flatten) (arr := Builtin.zeroCells zv.cells n) hI hH (by rw [hnl]; exact hl)
              (by simp [Builtin.zeroCells, hzc, hzs.1]) (fun j hj => by
                have hmod : j % z.length < z.length := Nat.mod_lt _ hz0
                rw [flatten_get n z j hj hmod, zeroCells_get _ _ _ (by rw [hzc, hzs.1, ← hnl]; exact hj) (by omega), hzc]
                exact hzr _ hmod) (by
                rw [List.all_eq_true]
                intro q hq
                obtain ⟨l, hl, hq⟩ := List.mem_flatten.1 hq
                rw [List.mem_replicate] at hl
                rw [hl.2] at hq
                exact List.all_eq_true.1 hzs.2.2 q hq)
            refine ⟨ρ, w', s2, s3, .inl ⟨.tuple #[], hex _ ?_, .tup [] #[] rfl (fun i hi => by simp at hi)⟩⟩
            obtain ⟨n, rfl⟩ : ∃ m, n = m + 1 := ⟨n - 1, by omega⟩
            simp [Builtin.clear_, run_und hd, hxv, run_zero hi hzv, s1]
          · cases hs
        · cases hs
      · cases hs
    · cases hp
  · cases hp

end
end Fe
namespace Fe
open Go Go.RowKit

section
variable {P : Program} {Out : Nat → Prop} {ρ : Nat → Nat} {H : Heap} {Bad : Nat → Prop} {w : World} {e : Env} {a : Act} {o : Oper}

theorem map_pair {α β γ : Type} {x : Option α} {f : α → β × γ} {p : β × γ} (h : x.map f = some p) : ∃ y, x = some y ∧ f y = p := by
  simpa [Option.map_eq_some_iff] using h

set_option maxHeartbeats 2000000 in
/-- An operation that calls nothing. -/
theorem stepO_sound {co : O} {lim : Nat} {v : V} {H' : Heap} (hs : stripO P o.op = some co) (hstep : stepO lim co e H = some (v, H')) (hI : HInv P Out ρ H w) (hE : ERel Out ρ H w e a) :
    Does P a o Out ρ H w v H' := by
  generalize hop : o.op = op at hs
  unfold stripO at hs
  split at hs
  -- move
  · simp only [Option.map_eq_some_iff] at hs
    obtain ⟨cx, hx, rfl⟩ := hs
    cases hstep
    exact does_mov (.inl hop) hx hI hE
  -- assign
  · simp only [Option.map_eq_some_iff] at hs
    obtain ⟨cx, hx, rfl⟩ := hs
    cases hstep
    exact does_mov (.inr hop) hx hI hE
  -- pick
  · simp only [Option.bind_eq_bind,Option.bind_eq_some_iff,Option.pure_def,Option.some.injEq] at hs
    obtain ⟨cc, hc, cx, hx, cy, hy, rfl⟩ := hs
    simp only [stepO] at hstep
    split at hstep
    · rename_i t ht
      cases hstep
      exact does_pick hop hc hx hy hI hE ht
    · cases hstep
  -- alloc
  · simp only [Option.bind_eq_bind,Option.bind_eq_some_iff,Option.pure_def,Option.some.injEq] at hs
    obtain ⟨i, hi, z, hz, cv, hv, rfl⟩ := hs
    simp only [stepO] at hstep
    split at hstep
    · rename_i hb
      cases hstep
      exact does_alloc hop hi hz hv hI hb
    · cases hstep
  -- box
  · simp only [Option.map_eq_some_iff] at hs
    obtain ⟨cx, hx, rfl⟩ := hs
    simp only [stepO] at hstep
    split at hstep
    · rename_i hb
      cases hstep
      exact does_box hop hx hI hE hb
    · cases hstep
  -- build
  · simp only [Option.bind_eq_bind,Option.bind_eq_some_iff] at hs
    obtain ⟨z, hz, d, hd, hs⟩ := hs
    split at hs
    · simp only [Option.bind_eq_bind,Option.bind_eq_some_iff,Option.pure_def,Option.some.injEq] at hs
      obtain ⟨pl, hpl, cps, hst, rfl⟩ := hs
      obtain ⟨cs, hf, hp⟩ := map_pair hstep
      cases hp
      exact does_build hop hd hz (.inl ⟨_, _, rfl, hpl, hst⟩) hI hE hf
    · simp only [Option.bind_eq_bind,Option.bind_eq_some_iff,Option.pure_def,Option.some.injEq] at hs
      obtain ⟨i, hi, cps, hst, rfl⟩ := hs
      obtain ⟨cs, hf, hp⟩ := map_pair hstep
      cases hp
      exact does_build hop hd hz (.inr ⟨_, _, _, rfl, hi, hst⟩) hI hE hf
    · cases hs
  -- buildSlice
  · simp only [Option.bind_eq_bind,Option.bind_eq_some_iff] at hs
    obtain ⟨d, hd, hs⟩ := hs
    split at hs
    · simp only [Option.bind_eq_bind,Option.bind_eq_some_iff] at hs
      obtain ⟨i, hi, hs⟩ := hs
      split at hs
      · cases hs
      · rename_i hb
        simp only [Option.bind_eq_bind,Option.bind_eq_some_iff] at hs
        obtain ⟨z, hz, hs⟩ := hs
        split at hs
        · rename_i hsz
          simp only [Option.bind_eq_bind,Option.bind_eq_some_iff,Option.pure_def,Option.some.injEq] at hs
          obtain ⟨cps, hst, rfl⟩ := hs
          rename_i el
          cases hh : hotEl P el with
          | true =>
            simp only [hh,if_true] at hstep
            obtain ⟨cs, hf, hp⟩ := map_pair hstep
            cases hp
            exact does_mkslh hop hd hi hb hz hsz hst hI hE hf
          | false =>
            simp only [hh,Bool.false_eq_true,if_false] at hstep
            obtain ⟨cs, hf, hp⟩ := map_pair hstep
            cases hp
            exact does_mksl hop hd hi hb hz hsz hst hI hE hf
        · cases hs
    · cases hs
  -- load
  · simp only [Option.bind_eq_bind,Option.bind_eq_some_iff,Option.pure_def,Option.some.injEq] at hs
    obtain ⟨d, hd, i, hi, cx, hx, rfl⟩ := hs
    obtain ⟨r, hr, hp⟩ := map_pair hstep
    cases hp
    exact does_load hop hd hi hx hI hE hr
  -- store
  · simp only [Option.bind_eq_bind,Option.bind_eq_some_iff,Option.pure_def,Option.some.injEq] at hs
    obtain ⟨i, hi, cx, hx, cy, hy, rfl⟩ := hs
    simp only [stepO] at hstep
    split at hstep
    · rename_i k g off hp
      split at hstep
      · rename_i g' esz cs hk
        split at hstep
        · rename_i hcond
          obtain ⟨rfl, h1, h2, h3⟩ := hcond
          cases hstep
          exact does_store hop hi hx hy hI hE hp hk h1 h2 h3
        · cases hstep
      · cases hstep
    · cases hstep
  -- nilCheck
  · simp only [Option.map_eq_some_iff] at hs
    obtain ⟨cx, hx, rfl⟩ := hs
    simp only [stepO] at hstep
    have : H' = H := by
      split at hstep <;> first | (cases hstep; rfl) | cases hstep
    subst this
    exact does_nilck hop hx hI hE hstep
  -- binOp
  · split at hs
    · rename_i neg hnil
      simp only [Option.bind_eq_bind,Option.bind_eq_some_iff,Option.pure_def,Option.some.injEq] at hs
      obtain ⟨d, hd, hs⟩ := hs
      split at hs
      · simp only [Option.bind_eq_some_iff,Option.some.injEq] at hs
        obtain ⟨cx, hx, rfl⟩ := hs
        obtain ⟨rfl, hdo⟩ := does_isnil hop hnil hd hx hI hE hstep
        exact hdo
      · cases hs
    · simp only [Option.bind_eq_bind,Option.bind_eq_some_iff,Option.pure_def,Option.some.injEq] at hs
      obtain ⟨d, hd, cx, hx, cy, hy, rfl⟩ := hs
      obtain ⟨r, hr, hp⟩ := map_pair hstep
      cases hp
      exact does_bin hop hd hx hy hI hE hr
  -- unOp
  · simp only [Option.map_eq_some_iff] at hs
    obtain ⟨cx, hx, rfl⟩ := hs
    obtain ⟨r, hr, hp⟩ := map_pair hstep
    cases hp
    exact does_un hop hx hI hE hr
  -- convert
  · simp only [Option.bind_eq_bind,Option.bind_eq_some_iff,Option.pure_def,Option.some.injEq] at hs
    obtain ⟨k, hk, cx, hx, rfl⟩ := hs
    obtain ⟨r, hr, hp⟩ := map_pair hstep
    cases hp
    exact does_conv hop hk hx hI hE hr
  -- makeFunc
  · simp only [Option.bind_eq_bind,Option.bind_eq_some_iff,Option.pure_def,Option.some.injEq] at hs
    obtain ⟨cf, hf, cc, hc, rfl⟩ := hs
    cases hstep
    exact does_mkfn hop hf hc hI hE
  -- makeSlice
  · simp only [Option.bind_eq_bind,Option.bind_eq_some_iff] at hs
    obtain ⟨d, hd, hs⟩ := hs
    split at hs
    · simp only [Option.bind_eq_bind,Option.bind_eq_some_iff] at hs
      obtain ⟨i, hi, z, hz, hs⟩ := hs
      split at hs
      · rename_i hsz
        simp only [Option.bind_eq_bind,Option.bind_eq_some_iff,Option.pure_def,Option.some.injEq] at hs
        obtain ⟨cx, hx, cy, hy, rfl⟩ := hs
        simp only [stepO] at hstep
        split at hstep
        · rename_i k n k' m hn hm
          split at hstep
          · rename_i hb
            cases hstep
            exact does_mkslice hop hd hi hz hsz.1 hsz.2 hx hy hI hE hn hm hb
          · cases hstep
        · cases hstep
      · cases hs
    · cases hs
  -- slice
  · simp only [Option.bind_eq_bind,Option.bind_eq_some_iff] at hs
    obtain ⟨d, hd, hs⟩ := hs
    split at hs
    · simp only [Option.bind_eq_bind,Option.bind_eq_some_iff,Option.pure_def,Option.some.injEq] at hs
      obtain ⟨i, hi, cx, hx, clo, hlo, chi, hhi, cmx, hmx, rfl⟩ := hs
      obtain ⟨r, hr, hp⟩ := map_pair hstep
      cases hp
      exact does_slice hop hd hi hx hlo hhi hmx hI hE hr
    · split at hs
      · rename_i hmx
        simp only [Option.bind_eq_bind,Option.bind_eq_some_iff,Option.pure_def,Option.some.injEq] at hs
        obtain ⟨cx, hx, clo, hlo, chi, hhi, rfl⟩ := hs
        obtain ⟨r, hr, hp⟩ := map_pair hstep
        cases hp
        have := Option.isNone_iff_eq_none.1 hmx
        subst this
        exact does_slstr hop hd hx hlo hhi hI hE hr
      · cases hs
    · cases hs
  -- fieldAddr
  · simp only [Option.bind_eq_bind,Option.bind_eq_some_iff] at hs
    obtain ⟨d, hd, hs⟩ := hs
    split at hs
    · simp only [Option.bind_eq_bind,Option.bind_eq_some_iff] at hs
      obtain ⟨f, hf, i, hi, hs⟩ := hs
      split at hs
      · cases hs
      · rename_i hz
        simp only [Option.bind_eq_bind,Option.bind_eq_some_iff,Option.pure_def,Option.some.injEq] at hs
        obtain ⟨cx, hx, rfl⟩ := hs
        simp only [stepO] at hstep
        have : H' = H := by
          split at hstep <;> first | (cases hstep; rfl) | cases hstep
        subst this
        exact does_faddr hop hd hf hi hz hx hI hE hstep
    · cases hs
  -- field
  · simp only [Option.bind_eq_bind,Option.bind_eq_some_iff] at hs
    obtain ⟨d, hd, hs⟩ := hs
    split at hs
    · simp only [Option.bind_eq_bind,Option.bind_eq_some_iff,Option.pure_def,Option.some.injEq] at hs
      obtain ⟨f, hf, i, hi, d', hd', cx, hx, rfl⟩ := hs
      simp only [stepO] at hstep
      split at hstep
      · rename_i cs hc
        have : H' = H := by
          split at hstep
          · split at hstep
            · cases hstep; rfl
            · cases hstep
          · obtain ⟨_, _, hp⟩ := map_pair hstep
            cases hp; rfl
        subst this
        exact does_field hop hd hf hi hd' hx hI hE hc hstep
      · cases hstep
    · cases hs
  -- indexAddr
  · simp only [Option.bind_eq_bind,Option.bind_eq_some_iff] at hs
    obtain ⟨d, hd, hs⟩ := hs
    split at hs
    · simp only [Option.bind_eq_bind,Option.bind_eq_some_iff,Option.pure_def,Option.some.injEq] at hs
      obtain ⟨i, hi, cx, hx, cy, hy, rfl⟩ := hs
      simp only [stepO] at hstep
      have : H' = H := by
        split at hstep
        · split at hstep
          · cases hstep; rfl
          · cases hstep
        · split at hstep
          · cases hstep; rfl
          · cases hstep
        · cases hstep
      subst this
      exact does_iaddr hop hd hi hx hy hI hE hstep
    · simp only [Option.bind_eq_bind,Option.bind_eq_some_iff,Option.pure_def,Option.some.injEq] at hs
      obtain ⟨i, hi, cx, hx, cy, hy, rfl⟩ := hs
      simp only [stepO] at hstep
      have : H' = H := by
        split at hstep
        · split at hstep
          · cases hstep; rfl
          · cases hstep
        · split at hstep
          · cases hstep; rfl
          · cases hstep
        · cases hstep
      subst this
      exact does_aaddr hop hd hi hx hy hI hE hstep
    · cases hs
  -- index
  · simp only [Option.bind_eq_bind,Option.bind_eq_some_iff] at hs
    obtain ⟨d, hd, hs⟩ := hs
    split at hs
    · simp only [Option.bind_eq_bind,Option.bind_eq_some_iff,Option.pure_def,Option.some.injEq] at hs
      obtain ⟨cx, hx, cy, hy, rfl⟩ := hs
      simp only [stepO] at hstep
      split at hstep
      · rename_i s k j h1 h2
        split at hstep
        · rename_i h0
          obtain ⟨b, hb, hp⟩ := map_pair hstep
          cases hp
          exact does_index hop hd hx hy hI hE h1 h2 h0 hb
        · cases hstep
      · cases hstep
    · cases hs
  -- extract
  · simp only [Option.map_eq_some_iff] at hs
    obtain ⟨cx, hx, rfl⟩ := hs
    simp only [stepO] at hstep
    split at hstep
    · rename_i vs hv
      obtain ⟨r, hr, hp⟩ := map_pair hstep
      cases hp
      exact does_extract hop hx hI hE hv hr
    · cases hstep
  -- range
  · simp only [Option.bind_eq_bind,Option.bind_eq_some_iff] at hs
    obtain ⟨d, hd, hs⟩ := hs
    split at hs
    · simp only [Option.bind_eq_bind,Option.bind_eq_some_iff,Option.pure_def,Option.some.injEq] at hs
      obtain ⟨cx, hx, rfl⟩ := hs
      simp only [stepO] at hstep
      split at hstep
      · rename_i s hv
        cases hstep
        exact does_range hop hd hx hI hE hv
      · cases hstep
    · cases hs
  -- next
  · simp only [Option.map_eq_some_iff] at hs
    obtain ⟨cx, hx, rfl⟩ := hs
    simp only [stepO] at hstep
    split at hstep
    · rename_i k hp
      split at hstep
      · rename_i s pos hk
        exact does_next hop hx hI hE hp hk hstep
      · cases hstep
    · cases hstep
  -- call
  · rename_i c
    split at hs
    · rename_i hcal
      split at hs
      · rename_i t x hta hax
        simp only [Option.bind_eq_bind,Option.bind_eq_some_iff] at hs
        obtain ⟨d, hd, hs⟩ := hs
        split at hs
        · simp only [Option.bind_eq_bind,Option.bind_eq_some_iff,Option.pure_def,Option.some.injEq] at hs
          obtain ⟨cx, hx, rfl⟩ := hs
          obtain ⟨n, hn, hp⟩ := map_pair hstep
          cases hp
          exact does_len (str := true) hop hcal hta hax hd (.inl ⟨rfl, rfl⟩) hx hI hE hn
        · simp only [Option.bind_eq_bind,Option.bind_eq_some_iff,Option.pure_def,Option.some.injEq] at hs
          obtain ⟨cx, hx, rfl⟩ := hs
          obtain ⟨n, hn, hp⟩ := map_pair hstep
          cases hp
          exact does_len (str := false) hop hcal hta hax hd (.inr ⟨rfl, _, rfl⟩) hx hI hE hn
        · simp only [Option.bind_eq_bind,Option.bind_eq_some_iff,Option.pure_def,Option.some.injEq] at hs
          obtain ⟨cx, hx, rfl⟩ := hs
          exact does_mlen hop hcal hta hax hd hx hI hE hstep
        · cases hs
      · cases hs
    · rename_i hcal
      split at hs
      · rename_i x y hax
        simp only [Option.bind_eq_bind,Option.bind_eq_some_iff,Option.pure_def,Option.some.injEq] at hs
        obtain ⟨cx, hx, cy, hy, rfl⟩ := hs
        simp only [stepO] at hstep
        split at hstep
        · rename_i k p k' q h1 h2
          cases hstep
          exact does_max hop hcal hax hx hy hI hE h1 h2
        · cases hstep
      · cases hs
    · rename_i hcal
      split at hs
      · rename_i x y hax
        simp only [Option.bind_eq_bind,Option.bind_eq_some_iff,Option.pure_def,Option.some.injEq] at hs
        obtain ⟨cx, hx, cy, hy, rfl⟩ := hs
        simp only [stepO] at hstep
        split at hstep
        · rename_i k p k' q h1 h2
          cases hstep
          exact does_min hop hcal hax hx hy hI hE h1 h2
        · cases hstep
      · cases hs
    · rename_i hcal
      split at hs
      · rename_i t u x y hta hax
        simp only [Option.bind_eq_bind,Option.bind_eq_some_iff] at hs
        obtain ⟨d, hd, hs⟩ := hs
        split at hs
        · simp only [Option.bind_eq_bind,Option.bind_eq_some_iff] at hs
          obtain ⟨i, hi, z, hz, ud, hu, hs⟩ := hs
          split at hs
          · cases hs
          · rename_i hud
            split at hs
            · cases hs
            · rename_i hsz
              simp only [Option.bind_eq_bind,Option.bind_eq_some_iff,Option.pure_def,Option.some.injEq] at hs
              obtain ⟨cx, hx, cy, hy, rfl⟩ := hs
              exact does_append hop hcal hta hax hd hu (fun k hk => hud k hk) hi hz (fun h => hsz (.inl h)) (Decidable.byContradiction fun h => hsz (.inr h)) hx hy hI hE hstep
        · cases hs
      · cases hs
    · rename_i hcal
      split at hs
      · rename_i t ts m k hta hax
        simp only [Option.bind_eq_bind,Option.bind_eq_some_iff,Option.pure_def,Option.some.injEq] at hs
        obtain ⟨kc, hk, cx, hx, cy, hy, rfl⟩ := hs
        exact does_mapdel hop hcal hta hax hk hx hy hI hE hstep
      · cases hs
    · rename_i hcal
      split at hs
      · rename_i t x hta hax
        simp only [Option.bind_eq_bind,Option.bind_eq_some_iff,Option.pure_def,Option.some.injEq] at hs
        obtain ⟨p, hp, cx, hx, rfl⟩ := hs
        exact does_clear hop hcal hta hax hp hx hI hE hstep
      · cases hs
    · cases hs
  -- makeMap
  · simp only [Option.bind_eq_bind,Option.bind_eq_some_iff,Option.pure_def,Option.some.injEq] at hs
    obtain ⟨_, _, rfl⟩ := hs
    cases hstep
    exact does_mkmap hop hI
  -- lookup
  · simp only [Option.bind_eq_bind,Option.bind_eq_some_iff,Option.pure_def,Option.some.injEq] at hs
    obtain ⟨kc, hk, z, hz, cx, hx, cy, hy, rfl⟩ := hs
    exact does_lookup hop hk hz hx hy hI hE hstep
  -- mapUpdate
  · simp only [Option.bind_eq_bind,Option.bind_eq_some_iff,Option.pure_def,Option.some.injEq] at hs
    obtain ⟨kc, hk, cx, hx, cy, hy, cz, hz, rfl⟩ := hs
    exact does_mapset (.inl hop) hk hx hy hz hI hE hstep
  -- insert
  · simp only [Option.bind_eq_bind,Option.bind_eq_some_iff,Option.pure_def,Option.some.injEq] at hs
    obtain ⟨kc, hk, cx, hx, cy, hy, cz, hz, rfl⟩ := hs
    exact does_mapset (.inr hop) hk hx hy hz hI hE hstep
  · cases hs

end
end Fe
namespace Fe
open Go Go.RowKit

/-! ### Regions that draw their order -/
def X.uses : X → List Nat
  | .t n => [n]
  | .c _ => []
def OX.uses : Option X → List Nat
  | some x => x.uses
  | none => []
def O.uses : O → List Nat
  | .mov x | .box x | .load _ _ x | .nilck x | .un _ x | .conv _ x | .faddr _ x | .field _ _ _ x | .extract x _ | .len _ x | .range x | .next x | .isnil _ x | .mlen x | .clear _ _ x => x.uses
  | .loadx _ _ x av => x.uses ++ av.flatMap X.uses
  | .pick c a b => c.uses ++ a.uses ++ b.uses
  | .build _ ps | .mksl _ _ ps | .mkslh _ _ _ ps => ps.flatMap fun p => p.2.2.uses
  | .store _ a v => a.uses ++ v.uses
  | .bin _ _ x y | .iaddr _ x y | .aaddr _ _ x y | .index x y | .append _ _ x y | .mx x y | .mn x y | .lookup _ _ _ x y | .mapdel _ x y => x.uses ++ y.uses
  | .mapset _ x y z => x.uses ++ y.uses ++ z.uses
  | .mkmap => []
  | .mkfn _ fi ca => fi.flatMap X.uses ++ ca.flatMap X.uses
  | .mkslice _ _ _ l c => l.uses ++ c.uses
  | .slice _ x lo hi m3 => x.uses ++ OX.uses lo ++ OX.uses hi ++ OX.uses m3
  | .slstr x lo hi => x.uses ++ OX.uses lo ++ OX.uses hi
def OC.uses : OC → List Nat
  | .op o => o.uses
  | .call _ f as => f.uses ++ as.flatMap X.uses
  | .callc f as => f.uses ++ as.flatMap X.uses
def Op.uses (o : Op) : List Nat := (match o.guard with | some (t, _) => [t] | none => []) ++ o.o.uses

/-- 0: of values alone · 1: reads the heap · 2: adds to it · 3: writes it · 4: calls at the heap. -/
def O.cls : O → Nat
  | .load .. | .loadx .. | .slice .. => 1
  | .conv k _ => match k with
    | .bytesStr | .runesStr => 1
    | _ => 0
  | .box _ | .mkslice .. | .mkslh .. | .range _ | .mkmap => 2
  | .store .. | .append .. | .next _ | .lookup .. | .mapset .. | .mapdel .. | .mlen _ | .clear .. => 3
  | _ => 0
def OC.cls : OC → Nat
  | .op o => o.cls
  | .call true _ _ => 2
  | .call false _ _ => 4
  | .callc _ _ => 0

/-- A load of a place that is none of those that are written. -/
def apartOf (a b : Op) : Bool :=
  match a.o, b.o with
  | .op (.loadx _ _ _ av), .op (.store _ (.t n) _) => av.any fun x => match x with
    | .t m => m == n
    | _ => false
  | _, _ => false

def commutes (a b : Op) : Bool :=
  ((a.o.cls == 0 && decide (b.o.cls ≤ 3)) || (b.o.cls == 0 && decide (a.o.cls ≤ 3)) || (a.o.cls == 1 && decide (b.o.cls ≤ 2)) || (b.o.cls == 1 && decide (a.o.cls ≤ 2)) || apartOf a b || apartOf b a) &&
  (match a.dst with | some d => !(b.uses.contains d) && (b.dst != some d) | none => true) && (match b.dst with | some d => !(a.uses.contains d) | none => true)

def preds (o : Oper) : List Nat := (o.after.toList.filter (Region.binds .any)).map (·.on)

/-- What must lie ahead of what: for each operation, as bits. -/
def befores : List Oper → List Nat
  | ops => ops.foldl (fun T o => T ++ [(preds o).foldl (fun s j => s ||| 2 ^ j ||| T.getD j 0) 0]) []

def drawOK (ops : List Oper) (cops : List Op) : Bool :=
  let T := befores ops
  (List.range ops.length).all fun i =>
    (preds (ops.getD i default)).all (· < i) && (List.range i).all fun j => (T.getD i 0).testBit j || commutes (cops.getD j default) (cops.getD i default)

/-- Is a call ordered against all others? -/
def alone (T : List Nat) (n i : Nat) : Bool := (List.range n).all fun j => j == i || (T.getD i 0).testBit j || (T.getD j 0).testBit i

def stripOpsAt (P : Program) (N : Nat) (mode : Nat) (ops : Array Oper) (T : List Nat) : Nat → List Oper → Option (List Op)
  | _, [] => some []
  | i, o :: os => do
    let c ← stripOp P N (if alone T ops.size i = true then 0 else mode) ops o
    let cs ← stripOpsAt P N mode ops T (i + 1) os
    return c :: cs

/-- Loads that keep off what is written. -/
def O.strong (av : List X) : O → O
  | .load g s a => .loadx g s a av
  | o => o
def Op.strong : Option (List X) → Op → Op
  | none, o => o
  | some av, o => match o.o with
    | .op o' => { o with o := .op (o'.strong av) }
    | _ => o
def storesOf (l : List Op) : List X := l.filterMap fun o => match o.o with
  | .op (.store _ a _) => some a
  | _ => none

def tryDraw (P : Program) (N : Nat) (ops : Array Oper) (mode : Nat) (st : Bool) : Option (List Op) :=
  match stripOpsAt P N mode ops (befores ops.toList) 0 ops.toList with
  | some cops =>
    let cops' := cops.map (Op.strong (if st = true then some (storesOf cops) else none))
    if drawOK ops.toList cops' = true then some cops' else none
  | none => none

/-- A region's operations: in the text's order, or in whatever order may be drawn. -/
def stripRegion (P : Program) (N : Nat) (draw : Bool) (ops : Array Oper) : Option (List Op) :=
  if draw = true then
    match tryDraw P N ops 1 false with
    | some l => some l
    | none => match tryDraw P N ops 2 false with
      | some l => some l
      | none => match tryDraw P N ops 1 true with
        | some l => some l
        | none => tryDraw P N ops 2 true
  else stripOpsAt P N 0 ops [] 0 ops.toList

/-- No range over a function within? -/
def C.norf : C → Bool
  | .seq a b => a.norf && b.norf
  | .cond _ a b => a.norf && b.norf
  | .block _ c => c.norf
  | .loop c => c.norf
  | .rangef _ _ _ _ => false
  | _ => true
def roundOK (N : Nat) (ps : List Nat) (a c : C) : Bool := ps.all (· < N) && a.norf && c.norf

def stripCode (P : Program) (N : Nat) : Code → Option C
  | .skip => some .skip
  | .label _ => some .skip
  | .region _ ops draw =>
    match stripRegion P N draw ops with
    | some cops => some (.region draw cops)
    | none => some .bad
  | .seq a b => do return .seq (← stripCode P N a) (← stripCode P N b)
  | .cond x a b => do return .cond (← stripX P x) (← stripCode P N a) (← stripCode P N b)
  | .block id c => do return .block id (← stripCode P N c)
  | .loop c => do return .loop (← stripCode P N c)
  | .exit id => some (.exit id)
  | .ret => some .ret
  | .rangeFunc g ps a b => do
    let x ← stripX P g
    let ca ← stripCode P N a
    let cb ← stripCode P N b
    if roundOK N ps.toList ca cb = true then return .rangef x ps.toList ca cb else return .bad
  | _ => some .bad

/-- What a loop's record holds. -/
def Strp (P : Program) (a c : C) (N : Nat) (ps : List Nat) (A B : Code) : Prop :=
  stripCode P N A = some a ∧ stripCode P N B = some c ∧ roundOK N ps a c = true

/-- The widest fence, in a round or not. -/
structure Wide (P : Program) (F : Fence) : Prop where
  fn : ∀ f, F.fn f
  depth : F.depth = none
  calls : ∀ {n f args w R}, Calls P f args w R → CallsIn F n P f args w R

theorem wide_wide (P : Program) : Wide P Fence.wide := ⟨fun _ => trivial, rfl, fun h => callsIn_wide.2 h⟩
theorem Wide.inRound {P : Program} {F : Fence} (h : Wide P F) (l : Nat) : Wide P (F.inRound l) := ⟨h.fn, h.depth, fun hc => (h.calls hc : CallsIn F _ P _ _ _ _)⟩

end Fe
