/-
  Regions that draw their order, and whole codes, sound. No condition.
-/
import Derived.Test.YtjgjfabmakkooaaFeP
import Derived.RangeFuncRecord
set_option linter.unusedSimpArgs false
set_option linter.unusedVariables false
namespace Fe
open Go Go.RowKit

section
variable {P : Program}

theorem X.ev_congr {e e' : Env} {x : X} (h : ∀ t ∈ x.uses, e t = e' t) : x.ev e = x.ev e' := by
  cases x with
  | t n => exact h n (by simp [X.uses])
  | c v => rfl

theorem boundOf_congr {e e' : Env} {d : Nat} {x : Option X} (h : ∀ t ∈ OX.uses x, e t = e' t) : boundOf d e x = boundOf d e' x := by
  cases x with
  | none => rfl
  | some x => simp only [boundOf]; rw [X.ev_congr (x := x) h]

theorem evs_congr {e e' : Env} {l : List X} (h : ∀ t ∈ l.flatMap X.uses, e t = e' t) : l.map (·.ev e) = l.map (·.ev e') := by
  apply List.map_congr_left
  intro x hx
  exact X.ev_congr fun t ht => h t (List.mem_flatMap.2 ⟨x, hx, ht⟩)

theorem parts_congr {e e' : Env} {l : List (Nat × Nat × X)} (h : ∀ t ∈ l.flatMap (fun p => p.2.2.uses), e t = e' t) : evParts e l = evParts e' l := by
  apply List.map_congr_left
  intro x hx
  rw [X.ev_congr fun t ht => h t (List.mem_flatMap.2 ⟨x, hx, ht⟩)]

theorem stepO_congr {e e' : Env} {lim : Nat} {o : O} {H : Heap} (h : ∀ t ∈ o.uses, e t = e' t) : stepO lim o e H = stepO lim o e' H := by
  cases o <;> simp only [O.uses,List.mem_append] at h <;> simp only [stepO,sliceV,slstrV]
  case build z ps | mksl z n ps | mkslh s z n ps => rw [parts_congr h]
  case mkfn f fi ca => rw [evs_congr (fun t ht => h t (.inl ht)), evs_congr (fun t ht => h t (.inr ht))]
  case pick c x y => rw [X.ev_congr (x := c) fun t ht => h t (.inl (.inl ht)), X.ev_congr (x := x) fun t ht => h t (.inl (.inr ht)), X.ev_congr (x := y) fun t ht => h t (.inr ht)]
  case slice z x lo hi mx =>
    rw [X.ev_congr (x := x) fun t ht => h t (.inl (.inl (.inl ht))), boundOf_congr (x := lo) fun t ht => h t (.inl (.inl (.inr ht)))]
    have e1 : ∀ d, boundOf d e hi = boundOf d e' hi := fun d => boundOf_congr fun t ht => h t (.inl (.inr ht))
    have e2 : ∀ d, boundOf d e mx = boundOf d e' mx := fun d => boundOf_congr fun t ht => h t (.inr ht)
    simp only [e1,e2]
  case slstr x lo hi =>
    rw [X.ev_congr (x := x) fun t ht => h t (.inl (.inl ht)), boundOf_congr (x := lo) fun t ht => h t (.inl (.inr ht))]
    have e1 : ∀ d, boundOf d e hi = boundOf d e' hi := fun d => boundOf_congr fun t ht => h t (.inr ht)
    simp only [e1]
  case loadx g s x av => rw [X.ev_congr (x := x) fun t ht => h t (.inl ht), evs_congr (fun t ht => h t (.inr ht))]
  case mapset c x y z => rw [X.ev_congr (x := x) fun t ht => h t (.inl (.inl ht)), X.ev_congr (x := y) fun t ht => h t (.inl (.inr ht)), X.ev_congr (x := z) fun t ht => h t (.inr ht)]
  case mov x | box x | load g s x | nilck x | un p x | conv k x | faddr f x | field g f s x | extract x i | len s x | range x | next x | isnil g x | mlen x | clear s z x => rw [X.ev_congr (x := x) h]
  case store s x y | bin c p x y | iaddr s x y | aaddr s n x y | index x y | append s b x y | mx x y | mn x y | mkslice s b z x y | lookup c g z x y | mapdel c x y =>
    rw [X.ev_congr (x := x) fun t ht => h t (.inl ht), X.ev_congr (x := y) fun t ht => h t (.inr ht)]

def look (H : Heap) (k : Nat) : Option HObj := (H[k]?).map HObj.freeze
def LimEq (m : Nat) (H H' : Heap) : Prop := ∀ k, k < m → look H k = look H' k

theorem LimEq.refl (m : Nat) (H : Heap) : LimEq m H H := fun _ _ => rfl
theorem LimEq.symm {m : Nat} {H H' : Heap} (h : LimEq m H H') : LimEq m H' H := fun k hk => (h k hk).symm

theorem look_freeze (H : Heap) (ks : List Nat) (k : Nat) : look (freezeL H ks) k = look H k := by
  simp only [look,freezeL_get,Option.map_map]
  cases H[k]? with
  | none => rfl
  | some o => simp only [Option.map_some,Function.comp]; split <;> simp [freeze_freeze]
theorem look_append {H X : Heap} {k : Nat} (h : k < H.length) : look (H ++ X) k = look H k := by
  simp [look, List.getElem?_append_left h]

theorem look_gen {H H' : Heap} {k : Nat} (h : look H k = look H' k) : genOf H k = genOf H' k ∧ eszOf H k = eszOf H' k := by
  have g : ∀ H : Heap, genOf H k = ((look H k).map HObj.gen).getD 0 := by
    intro H; simp only [genOf,look,Option.map_map]; cases H[k]? with
    | none => rfl
    | some o => cases o <;> rfl
  have s : ∀ H : Heap, eszOf H k = ((look H k).map HObj.esz).getD 0 := by
    intro H; simp only [eszOf,look,Option.map_map]; cases H[k]? with
    | none => rfl
    | some o => cases o <;> rfl
  exact ⟨by rw [g, g, h], by rw [s, s, h]⟩

/-- The cells at a place, whoever owns them. -/
def cellsAt (H : Heap) (k : Nat) : Option (Nat × Nat × List V) := match H[k]? with
  | some (.cells g e _ cs) => some (g, e, cs)
  | _ => none
theorem look_cells {H H' : Heap} {k : Nat} (h : look H k = look H' k) : cellsAt H k = cellsAt H' k := by
  have g : ∀ H : Heap, cellsAt H k = match look H k with | some (.cells g e _ cs) => some (g, e, cs) | _ => none := by
    intro H; simp only [cellsAt,look]; cases H[k]? with
    | none => rfl
    | some o => cases o <;> rfl
  rw [g, g, h]

theorem loadV_look {lim sz : Nat} {agg : Bool} {H H' : Heap} {v : V} (h : LimEq lim H H') : loadV lim agg sz H v = loadV lim agg sz H' v := by
  unfold loadV
  cases v with
  | cell k g off =>
    simp only
    split
    · rename_i hk
      have hc := look_cells (h k hk)
      simp only [cellsAt] at hc
      cases h1 : H[k]? with
      | none => cases h2 : H'[k]? with
        | none => rfl
        | some o => cases o <;> simp_all
      | some o => cases o with
        | cells g1 e1 o1 c1 => cases h2 : H'[k]? with
          | none => simp_all
          | some o' => cases o' <;> simp_all
        | iter s p => cases h2 : H'[k]? with
          | none => rfl
          | some o' => cases o' <;> simp_all
        | loop S ps e st pend => cases h2 : H'[k]? with
          | none => rfl
          | some o' => cases o' <;> simp_all
        | map es => cases h2 : H'[k]? with
          | none => rfl
          | some o' => cases o' <;> simp_all
    · rfl
  | _ => rfl

theorem readSl_look {lim esz : Nat} {H H' : Heap} {v : V} (h : LimEq lim H H') : readSl lim H esz v = readSl lim H' esz v := by
  unfold readSl
  cases v with
  | view k g off n =>
    simp only
    split
    · rename_i hk
      have hc := look_cells (h k hk)
      simp only [cellsAt] at hc
      cases h1 : H[k]? with
      | none => cases h2 : H'[k]? with
        | none => rfl
        | some o => cases o <;> simp_all
      | some o => cases o with
        | cells g1 e1 o1 c1 => cases h2 : H'[k]? with
          | none => simp_all
          | some o' => cases o' <;> simp_all
        | iter s p => cases h2 : H'[k]? with
          | none => rfl
          | some o' => cases o' <;> simp_all
        | loop S ps e st pend => cases h2 : H'[k]? with
          | none => rfl
          | some o' => cases o' <;> simp_all
        | map es => cases h2 : H'[k]? with
          | none => rfl
          | some o' => cases o' <;> simp_all
    · rfl
  | _ => rfl

theorem sliceV_look {lim esz : Nat} {H H' : Heap} {v : V} {lo hi mx : Option X} {e : Env} (h : LimEq lim H H') : sliceV lim H esz v lo hi mx e = sliceV lim H' esz v lo hi mx e := by
  unfold sliceV
  cases v with
  | view k g off n =>
    simp only
    congr 1; funext l; congr 1; funext hh
    by_cases hk : k < lim
    · obtain ⟨g1, g2⟩ := look_gen (h k hk)
      rw [g1, g2]
    · rw [if_neg (fun hc => hk hc.2.2.2.2.1), if_neg (fun hc => hk hc.2.2.2.2.1)]
  | _ => rfl

/-- Of values alone. -/
theorem stepO_zero {lim lim' : Nat} {o : O} {e : Env} {H H' H₁ : Heap} {v : V} (hc : o.cls = 0) (h : stepO lim o e H = some (v, H₁)) : H₁ = H ∧ stepO lim' o e H' = some (v, H') := by
  cases o <;> simp only [O.cls] at hc <;> first | (exact absurd hc (by decide)) | skip
  case conv k x =>
    simp only [stepO] at h ⊢
    obtain ⟨r, hr, hp⟩ := map_pair h
    cases hp
    refine ⟨rfl, ?_⟩
    have : convV lim' H' k (x.ev e) = some v := by
      rw [← hr]
      cases k with
      | bytesStr => simp at hc
      | runesStr => simp at hc
      | _ => simp only [convV]; cases x.ev e <;> rfl
    rw [this]; rfl
  case mov | mkfn => simp only [stepO] at h ⊢; cases h; exact ⟨rfl, rfl⟩
  case build | mksl | bin | un | slstr | len =>
    simp only [stepO] at h ⊢
    obtain ⟨r, hr, hp⟩ := map_pair h
    cases hp
    exact ⟨rfl, by rw [hr]; rfl⟩
  case pick | nilck | faddr | mx | mn =>
    simp only [stepO] at h ⊢
    split at h <;> first | (cases h; exact ⟨rfl, rfl⟩) | cases h
  case isnil g x =>
    simp only [stepO] at h ⊢
    split at h
    · split at h
      · rename_i hc
        cases h
        exact ⟨rfl, by rw [if_pos hc]⟩
      · rename_i hc
        cases h
        exact ⟨rfl, by rw [if_neg hc]⟩
    · cases h; exact ⟨rfl, rfl⟩
    · cases h
  case field g off sz x =>
    simp only [stepO] at h ⊢
    split at h
    · split at h
      · split at h
        · rename_i h1 h2
          cases h
          exact ⟨rfl, by rw [if_pos h1, if_pos h2]⟩
        · cases h
      · rename_i h1
        obtain ⟨r, hr, hp⟩ := map_pair h
        cases hp
        exact ⟨rfl, by rw [if_neg h1, hr]; rfl⟩
    · cases h
  case iaddr s x y | aaddr s n x y =>
    simp only [stepO] at h ⊢
    split at h
    · split at h
      · rename_i h1; cases h; exact ⟨rfl, by rw [if_pos h1]⟩
      · cases h
    · split at h
      · rename_i h1; cases h; exact ⟨rfl, by rw [if_pos h1]⟩
      · cases h
    · cases h
  case index x y =>
    simp only [stepO] at h ⊢
    split at h
    · split at h
      · rename_i h1
        obtain ⟨r, hr, hp⟩ := map_pair h
        cases hp
        exact ⟨rfl, by rw [if_pos h1, hr]; rfl⟩
      · cases h
    · cases h
  case extract x i =>
    simp only [stepO] at h ⊢
    split at h
    · obtain ⟨r, hr, hp⟩ := map_pair h
      cases hp
      exact ⟨rfl, by rw [hr]; rfl⟩
    · cases h

theorem stepO_one {lim : Nat} {o : O} {e : Env} {H H' H₁ : Heap} {v : V} (hc : o.cls = 1) (h : stepO lim o e H = some (v, H₁)) (hl : LimEq lim H H') : H₁ = H ∧ stepO lim o e H' = some (v, H') := by
  cases o <;> simp only [O.cls] at hc <;> first | (exact absurd hc (by decide)) | skip
  case load g s x =>
    simp only [stepO] at h ⊢
    obtain ⟨r, hr, hp⟩ := map_pair h
    cases hp
    exact ⟨rfl, by rw [← loadV_look hl, hr]; rfl⟩
  case loadx g s x av =>
    simp only [stepO] at h ⊢
    split at h
    · rename_i h1
      obtain ⟨r, hr, hp⟩ := map_pair h
      cases hp
      exact ⟨rfl, by rw [if_pos h1, ← loadV_look hl, hr]; rfl⟩
    · cases h
  case slice s x lo hi mx =>
    simp only [stepO] at h ⊢
    obtain ⟨r, hr, hp⟩ := map_pair h
    cases hp
    exact ⟨rfl, by rw [← sliceV_look hl, hr]; rfl⟩
  case conv k x =>
    simp only [stepO] at h ⊢
    obtain ⟨r, hr, hp⟩ := map_pair h
    cases hp
    refine ⟨rfl, ?_⟩
    cases k with
    | bytesStr => simp only [convV] at hr ⊢; rw [← readSl_look hl, hr]; rfl
    | runesStr => simp only [convV] at hr ⊢; rw [← readSl_look hl, hr]; rfl
    | _ => simp at hc

theorem stepO_two {lim : Nat} {o : O} {e : Env} {H H₁ : Heap} {v : V} (hc : o.cls = 2) (h : stepO lim o e H = some (v, H₁)) : ∃ X, H₁ = H ++ X := by
  cases o <;> simp only [O.cls] at hc <;> first | (exact absurd hc (by decide)) | skip
  case conv k x => cases k <;> simp at hc
  case box x =>
    simp only [stepO] at h
    split at h
    · cases h; exact ⟨_, rfl⟩
    · cases h
  case mkslice =>
    simp only [stepO] at h
    split at h
    · split at h
      · cases h; exact ⟨_, rfl⟩
      · cases h
    · cases h
  case range x =>
    simp only [stepO] at h
    split at h
    · cases h; exact ⟨_, rfl⟩
    · cases h
  case mkslh s z n ps =>
    simp only [stepO] at h
    obtain ⟨r, hr, hp⟩ := map_pair h
    cases hp
    exact ⟨_, rfl⟩
  case mkmap =>
    cases h
    exact ⟨_, rfl⟩

theorem stepO_len {lim : Nat} {o : O} {e : Env} {H H₁ : Heap} {v : V} (h : stepO lim o e H = some (v, H₁)) : H.length ≤ H₁.length := by
  by_cases h0 : o.cls = 0
  · rw [(stepO_zero (lim' := lim) (H' := H) h0 h).1]; exact Nat.le_refl _
  · by_cases h1 : o.cls = 1
    · rw [(stepO_one h1 h (LimEq.refl _ _)).1]; exact Nat.le_refl _
    · by_cases h2 : o.cls = 2
      · obtain ⟨X, rfl⟩ := stepO_two h2 h; simp
      · cases o <;> simp only [O.cls] at h0 h1 h2 <;> first | (exact absurd trivial h0) | (exact absurd trivial h1) | (exact absurd trivial h2) | skip
        case conv k x => cases k <;> simp at h0 h1
        case store s x y =>
          simp only [stepO] at h
          split at h
          · split at h
            · split at h
              · cases h; simp
              · cases h
            · cases h
          · cases h
        case append s b x y =>
          simp only [stepO,appendV] at h
          split at h
          · cases h
          · split at h
            · split at h
              · split at h
                · cases h; exact Nat.le_refl _
                · split at h
                  · cases h; simp
                  · cases h
              · cases h
            · split at h
              · split at h
                · cases h; exact Nat.le_refl _
                · split at h
                  · split at h
                    · cases h; simp
                    · cases h
                  · cases h
              · cases h
            · cases h
        case next x =>
          simp only [stepO] at h
          split at h
          · split at h
            · split at h
              · cases h; simp
              · cases h; exact Nat.le_refl _
            · cases h
          · cases h
        case lookup c g z x y =>
          simp only [stepO] at h
          split at h
          · cases h; exact Nat.le_refl _
          · split at h
            · obtain ⟨r, hr, hp⟩ := map_pair h
              cases hp; exact Nat.le_refl _
            · cases h
          · cases h
        case mapset c x y z =>
          simp only [stepO] at h
          split at h
          · split at h
            · obtain ⟨r, hr, hp⟩ := map_pair h
              cases hp; simp
            · cases h
          · cases h
        case mapdel c x y =>
          simp only [stepO] at h
          split at h
          · split at h
            · obtain ⟨r, hr, hp⟩ := map_pair h
              cases hp; simp
            · cases h
          · cases h
        case mlen x =>
          simp only [stepO] at h
          split at h
          · cases h; exact Nat.le_refl _
          · split at h
            · cases h; exact Nat.le_refl _
            · cases h
          · cases h
        case clear s z x =>
          simp only [stepO] at h
          split at h
          · split at h
            · split at h
              · cases h; simp
              · cases h
            · cases h
          · cases h

end
end Fe
namespace Fe
open Go Go.RowKit

section
variable {P : Program}

/-- What one operation comes to. -/
def runOp (P : Program) (lim : Option Nat) (o : Op) (e : Env) (H : Heap) (k : Env → Heap → Prop) : Prop :=
  match wantedV e o.guard with
  | some true => match o.o with
    | .call true f as => callD P (f.ev e) (as.map (·.ev e)) H fun r H' => k (e.put o.dst r) H'
    | .call false f as => callP P (f.ev e) (as.map (·.ev e)) H fun r H' => k (e.put o.dst r) H'
    | .callc f as => callC P (f.ev e) (as.map (·.ev e)) H fun r H' => k (e.put o.dst r) H'
    | .op o' => match stepO (lim.getD H.length) o' e H with
      | some p => k (e.put o.dst p.1) p.2
      | none => False
  | some false => k (e.put o.dst (.tup [])) H
  | none => False

theorem runOps_cons {lim : Option Nat} {o : Op} {os : List Op} {e : Env} {H : Heap} {K : Env → Heap → Prop} : runOps P lim (o :: os) e H K = runOp P lim o e H fun e H => runOps P lim os e H K := by
  unfold runOp
  rw [runOps]
  cases wantedV e o.guard with
  | none => rfl
  | some b => cases b with
    | false => rfl
    | true => cases o.o with
      | op o' =>
        simp only
        cases stepO (lim.getD H.length) o' e H <;> rfl
      | call p f as => cases p <;> rfl
      | callc f as => rfl

/-- Its outcomes, where it does not call at the heap. -/
def Outc (P : Program) (lim : Nat) (o : Op) (e : Env) (H : Heap) (v : V) (H' : Heap) : Prop :=
  match wantedV e o.guard with
  | some true => match o.o with
    | .call true f as => match f.ev e with
      | .fn g first cap => ∃ n r, roL (lend n H (first ++ as.map (·.ev e) ++ cap)).2 = true ∧ Good P g (lend n H (first ++ as.map (·.ev e) ++ cap)).2 r ∧
          (v, H') = adopt r (if r.loose = true then H else (lend n H (first ++ as.map (·.ev e) ++ cap)).1)
      | _ => False
    | .call false _ _ => False
    | .callc f as => match f.ev e with
      | .fn g first cap => ∃ r, roL (first ++ as.map (·.ev e) ++ cap) = true ∧ r.ro = true ∧ Good P g (first ++ as.map (·.ev e) ++ cap) r ∧ v = r ∧ H' = H
      | _ => False
    | .op o' => stepO lim o' e H = some (v, H')
  | some false => v = .tup [] ∧ H' = H
  | none => False

theorem runOp_outc {m : Nat} {o : Op} {e : Env} {H : Heap} {k : Env → Heap → Prop} (hc : o.o.cls ≤ 3) : runOp P (some m) o e H k ↔ ∃ v H', Outc P m o e H v H' ∧ k (e.put o.dst v) H' := by
  unfold runOp Outc
  cases wantedV e o.guard with
  | none => simp
  | some b => cases b with
    | false => exact ⟨fun h => ⟨_, _, ⟨rfl, rfl⟩, h⟩, fun ⟨v, H', ⟨h1, h2⟩, h3⟩ => by subst h1; subst h2; exact h3⟩
    | true =>
      simp only
      cases ho : o.o with
      | op o' =>
        simp only [Option.getD_some]
        cases stepO m o' e H with
        | none => simp
        | some p => exact ⟨fun h => ⟨p.1, p.2, rfl, h⟩, fun ⟨v, H', h1, h2⟩ => by cases h1; exact h2⟩
      | call pure f as =>
        cases pure with
        | false => rw [ho] at hc; simp [OC.cls] at hc
        | true =>
          simp only [callD]
          cases f.ev e with
          | fn g first cap =>
            simp only
            constructor
            · rintro ⟨n, r, h1, h2, h3⟩
              exact ⟨_, _, ⟨n, r, h1, h2, rfl⟩, h3⟩
            · rintro ⟨v, H', ⟨n, r, h1, h2, h3⟩, h4⟩
              refine ⟨n, r, h1, h2, ?_⟩
              rw [← h3]; exact h4
          | _ => simp
      | callc f as =>
        simp only [callC]
        cases f.ev e with
        | fn g first cap =>
          simp only
          constructor
          · rintro ⟨r, h1, h2, h3, h4⟩
            exact ⟨_, _, ⟨r, h1, h2, h3, rfl, rfl⟩, h4⟩
          · rintro ⟨v, H', ⟨r, h1, h2, h3, rfl, rfl⟩, h4⟩
            exact ⟨_, h1, h2, h3, h4⟩
        | _ => simp

theorem wanted_congr {e e' : Env} {g : Option (Nat × Bool)} (h : ∀ t ∈ (match g with | some (t, _) => [t] | none => []), e t = e' t) : wantedV e g = wantedV e' g := by
  cases g with
  | none => rfl
  | some p => simp only [wantedV]; rw [h p.1 (by simp)]

theorem outc_congr {m : Nat} {o : Op} {e e' : Env} {H H' : Heap} {v : V} (h : ∀ t ∈ o.uses, e t = e' t) : Outc P m o e H v H' ↔ Outc P m o e' H v H' := by
  have h1 : wantedV e o.guard = wantedV e' o.guard := wanted_congr fun t ht => h t (by simp only [Op.uses,List.mem_append]; exact .inl ht)
  have h2 : ∀ t ∈ o.o.uses, e t = e' t := fun t ht => h t (by simp only [Op.uses,List.mem_append]; exact .inr ht)
  unfold Outc
  rw [h1]
  cases wantedV e' o.guard with
  | none => exact Iff.rfl
  | some b => cases b with
    | false => exact Iff.rfl
    | true =>
      simp only
      cases ho : o.o with
      | op o' =>
        rw [ho] at h2
        simp only
        rw [stepO_congr (o := o') h2]
      | call pure f as =>
        rw [ho] at h2
        simp only [OC.uses,List.mem_append] at h2
        have e1 := X.ev_congr (x := f) fun t ht => h2 t (.inl ht)
        have e2 := evs_congr (l := as) fun t ht => h2 t (.inr ht)
        cases pure with
        | false => exact Iff.rfl
        | true => simp only; rw [e1, e2]
      | callc f as =>
        rw [ho] at h2
        simp only [OC.uses,List.mem_append] at h2
        have e1 := X.ev_congr (x := f) fun t ht => h2 t (.inl ht)
        have e2 := evs_congr (l := as) fun t ht => h2 t (.inr ht)
        simp only
        rw [e1, e2]

theorem lend_len (n : Nat) (H : Heap) (vs : List V) : (lend n H vs).1.length = H.length := by
  induction n generalizing H vs with
  | zero => rfl
  | succ n ih => simp only [lend]; rw [ih, freezeL_length]
theorem lend_look (n : Nat) (H : Heap) (vs : List V) (k : Nat) : look (lend n H vs).1 k = look H k := by
  induction n generalizing H vs with
  | zero => rfl
  | succ n ih => simp only [lend]; rw [ih, look_freeze]

theorem adoptL_append : ∀ (vs : List V) (H : Heap), ∃ X, (adoptL vs H).2 = H ++ X
  | [], H => ⟨[], by simp [adoptL]⟩
  | v :: vs, H => by
    simp only [adoptL]
    obtain ⟨X, hX⟩ := adoptL_append vs (adopt1 v H).2
    have : ∃ Y, (adopt1 v H).2 = H ++ Y := by
      cases v with
      | osl e cs n => exact ⟨_, rfl⟩
      | _ => exact ⟨[], by simp [adopt1]⟩
    obtain ⟨Y, hY⟩ := this
    exact ⟨Y ++ X, by rw [hX, hY, List.append_assoc]⟩
theorem adopt_append (r : V) (H : Heap) : ∃ X, (adopt r H).2 = H ++ X := by
  rcases tup_or r with ⟨vs, rfl⟩ | ⟨ha, _, _⟩
  · exact adoptL_append vs H
  · rw [ha]
    cases r with
    | osl e cs n => exact ⟨_, rfl⟩
    | _ => exact ⟨[], by simp [adopt1]⟩

/-- Up to class 2 the heap reads below m as it did. -/
theorem outc_look {m : Nat} {o : Op} {e : Env} {H H' : Heap} {v : V} (hc : o.o.cls ≤ 2) (hm : m ≤ H.length) (h : Outc P m o e H v H') : LimEq m H H' := by
  unfold Outc at h
  split at h
  · split at h
    · split at h
      · obtain ⟨n, r, _, _, h3⟩ := h
        obtain ⟨X, hX⟩ := adopt_append r (if r.loose = true then H else (lend n H _).1)
        have : H' = _ := (congrArg Prod.snd h3).trans hX
        intro k hk
        rw [this]
        split
        · rw [look_append (by omega)]
        · rw [look_append (by rw [lend_len]; omega), lend_look]
      · exact h.elim
    · exact h.elim
    · split at h
      · obtain ⟨r, _, _, _, _, rfl⟩ := h; exact .refl _ _
      · exact h.elim
    · rename_i o' ho
      rw [ho] at hc
      simp only [OC.cls] at hc
      rcases Nat.lt_or_ge o'.cls 1 with h1 | h1
      · rw [(stepO_zero (lim' := m) (H' := H) (by omega) h).1]; exact .refl _ _
      · rcases Nat.lt_or_ge o'.cls 2 with h2 | h2
        · rw [(stepO_one (by omega) h (.refl _ _)).1]; exact .refl _ _
        · obtain ⟨X, rfl⟩ := stepO_two (by omega) h
          intro k hk
          rw [look_append (by omega)]
  · rw [h.2]; exact .refl _ _
  · exact h.elim

/-- Class 0: the heap does not matter. -/
theorem outc_zero {m : Nat} {o : Op} {e : Env} {H H₁ H' : Heap} {v : V} (hc : o.o.cls = 0) (h : Outc P m o e H v H₁) : H₁ = H ∧ Outc P m o e H' v H' := by
  unfold Outc at h ⊢
  split at h
  · rename_i hw
    split at h
    · rename_i ho; rw [ho] at hc; simp [OC.cls] at hc
    · exact h.elim
    · split at h
      · obtain ⟨r, h1, h2, h3, h4, rfl⟩ := h
        exact ⟨rfl, r, h1, h2, h3, h4, rfl⟩
      · exact h.elim
    · rename_i o' ho
      rw [ho] at hc
      obtain ⟨h1, h2⟩ := stepO_zero (lim' := m) (H' := H') hc h
      exact ⟨h1, h2⟩
  · exact ⟨h.2, h.1, rfl⟩
  · exact h.elim

theorem outc_one {m : Nat} {o : Op} {e : Env} {H H₁ H' : Heap} {v : V} (hc : o.o.cls = 1) (h : Outc P m o e H v H₁) (hl : LimEq m H H') : H₁ = H ∧ Outc P m o e H' v H' := by
  unfold Outc at h ⊢
  split at h
  · rename_i hw
    split at h
    · rename_i ho; rw [ho] at hc; simp [OC.cls] at hc
    · exact h.elim
    · rename_i ho; rw [ho] at hc; simp [OC.cls] at hc
    · rename_i o' ho
      rw [ho] at hc
      obtain ⟨h1, h2⟩ := stepO_one hc h hl
      exact ⟨h1, h2⟩
  · exact ⟨h.2, h.1, rfl⟩
  · exact h.elim

theorem put_other {e : Env} {d : Option Nat} {v : V} {t : Nat} (h : ∀ k, d = some k → k ≠ t) : (e.put d v) t = e t := by
  cases d with
  | none => rfl
  | some k => simp only [Env.put,Env.set]; rw [if_neg (fun he => h k rfl he.symm)]

theorem put_comm {e : Env} {d d' : Option Nat} {v v' : V} (h : ∀ k, d = some k → d' ≠ some k) : (e.put d v).put d' v' = (e.put d' v').put d v := by
  cases d with
  | none => rfl
  | some k => cases d' with
    | none => rfl
    | some k' =>
      have hne : k' ≠ k := fun he => h k rfl (by rw [he])
      funext t
      simp only [Env.put,Env.set]
      by_cases h1 : t = k
      · subst h1; rw [if_neg (Ne.symm hne), if_pos rfl, if_pos rfl]
      · rw [if_neg h1]
        by_cases h2 : t = k'
        · rw [if_pos h2, if_neg h1]
        · rw [if_neg h2, if_neg h1]

theorem loadV_set {lim sz : Nat} {agg : Bool} {H : Heap} {k : Nat} {o : HObj} {v : V} (h : ∀ k' g off, v = .cell k' g off → k ≠ k') : loadV lim agg sz (H.set k o) v = loadV lim agg sz H v := by
  unfold loadV
  cases v with
  | cell k' g off => simp only [List.getElem?_set_ne (h k' g off rfl)]
  | _ => rfl

theorem apartOf_inv {a b : Op} (h : apartOf a b = true) : ∃ g s x av s' n y, a.o = .op (.loadx g s x av) ∧ b.o = .op (.store s' (.t n) y) ∧ X.t n ∈ av := by
  unfold apartOf at h
  split at h
  · rename_i g s x av s' n y h1 h2
    refine ⟨_, _, _, _, _, _, _, h1, h2, ?_⟩
    simp only [List.any_eq_true] at h
    obtain ⟨z, hz, h3⟩ := h
    cases z with
    | t m => simp only [beq_iff_eq] at h3; subst h3; exact hz
    | c v => simp at h3
  · cases h

/-- Loads keep clear of what is written. -/
theorem outc_apart {m : Nat} {a b : Op} {e : Env} {H Hb : Heap} {vb : V} (hap : apartOf a b = true) (h3 : Outc P m b e H vb Hb) : (∀ {va : V} {Ha : Heap}, Outc P m a e H va Ha → Ha = H ∧ Outc P m a e Hb va Hb) ∧ ∀ {va : V} {Ha : Heap}, Outc P m a e Hb va Ha → Ha = Hb ∧ Outc P m a e H va H := by
  obtain ⟨g, s, x, av, s', n, y, ha, hb, hmem⟩ := apartOf_inv hap
  -- the load is the same at both heaps
  have key : ∀ {r : V}, (wantedV e a.guard = some true) → (stepO m (.loadx g s x av) e H = some (r, H) ↔ stepO m (.loadx g s x av) e Hb = some (r, Hb)) := by
    intro r hw
    have hset : Hb = H ∨ ∃ k g' off o, e n = .cell k g' off ∧ Hb = H.set k o := by
      unfold Outc at h3
      rw [hb] at h3
      split at h3
      · simp only [stepO] at h3
        rw [show (X.t n).ev e = e n from rfl] at h3
        split at h3
        · rename_i k g' off he
          split at h3
          · split at h3
            · simp only [Option.some.injEq,Prod.mk.injEq] at h3
              exact .inr ⟨k, g', off, _, he, h3.2.symm⟩
            · cases h3
          · cases h3
        · cases h3
      · exact .inl h3.2
      · exact h3.elim
    rcases hset with rfl | ⟨k, g', off, o, he, rfl⟩
    · exact Iff.rfl
    · simp only [stepO]
      by_cases hap : apart (x.ev e) (av.map (·.ev e)) = true
      · have hl : loadV m g s (H.set k o) (x.ev e) = loadV m g s H (x.ev e) := by
          refine loadV_set fun k' g2 off2 hx => ?_
          rw [hx] at hap
          simp only [apart,List.all_eq_true] at hap
          have := hap _ (List.mem_map.2 ⟨_, hmem, rfl⟩)
          simp only [X.ev,he,bne_iff_ne,ne_eq] at this
          exact this
        rw [if_pos hap, if_pos hap, hl]
        cases loadV m g s H (x.ev e) <;> simp
      · rw [if_neg hap, if_neg hap]; simp
  have same : ∀ {H' H'' : Heap} {r : V}, stepO m (.loadx g s x av) e H' = some (r, H'') → H'' = H' := by
    intro H' H'' r h
    simp only [stepO] at h
    split at h
    · obtain ⟨_, _, hp⟩ := map_pair h
      cases hp; rfl
    · cases h
  refine ⟨fun {va Ha} h1 => ?_, fun {va Ha} h1 => ?_⟩
  · unfold Outc at h1 ⊢
    rw [ha] at h1 ⊢
    split at h1
    · rename_i hw
      have := same h1
      subst this
      exact ⟨rfl, (key hw).1 h1⟩
    · exact ⟨h1.2, h1.1, rfl⟩
    · exact h1.elim
  · unfold Outc at h1 ⊢
    rw [ha] at h1 ⊢
    split at h1
    · rename_i hw
      have := same h1
      subst this
      exact ⟨rfl, (key hw).2 h1⟩
    · exact ⟨h1.2, h1.1, rfl⟩
    · exact h1.elim

/-- Two that commute may change places. -/
theorem swap {m : Nat} {a b : Op} {e : Env} {H : Heap} {k : Env → Heap → Prop} (hc : commutes a b = true) (hm : m ≤ H.length)
    (h : runOp P (some m) a e H fun e H => runOp P (some m) b e H k) : runOp P (some m) b e H fun e H => runOp P (some m) a e H k := by
  simp only [commutes,Bool.and_eq_true,Bool.or_eq_true,beq_iff_eq,decide_eq_true_eq] at hc
  obtain ⟨⟨hcls, hd1⟩, hd2⟩ := hc
  have hlow : ∀ {a b : Op}, apartOf a b = true → a.o.cls ≤ 3 ∧ b.o.cls ≤ 3 := by
    intro a b h
    obtain ⟨_, _, _, _, _, _, _, h1, h2, _⟩ := apartOf_inv h
    rw [h1, h2]
    exact ⟨Nat.le_of_ble_eq_true rfl, Nat.le_of_ble_eq_true rfl⟩
  have hab : a.o.cls ≤ 3 ∧ b.o.cls ≤ 3 := by
    rcases hcls with (h | h) | h
    · omega
    · exact hlow h
    · exact (hlow h).symm
  have ha3 := hab.1
  have hb3 := hab.2
  have u1 : ∀ k, a.dst = some k → (∀ t ∈ b.uses, k ≠ t) ∧ b.dst ≠ some k := by
    intro k hk
    rw [hk] at hd1
    simp only [Bool.and_eq_true,Bool.not_eq_true',bne_iff_ne,ne_eq] at hd1
    refine ⟨fun t ht he => ?_, hd1.2⟩
    subst he
    have := hd1.1
    simp [ht] at this
  have u2 : ∀ k, b.dst = some k → ∀ t ∈ a.uses, k ≠ t := by
    intro k hk t ht he
    subst he
    rw [hk] at hd2
    simp [ht] at hd2
  rw [runOp_outc ha3] at h
  obtain ⟨va, Ha, h1, h2⟩ := h
  rw [runOp_outc hb3] at h2
  obtain ⟨vb, Hb, h3, h4⟩ := h2
  have cb : ∀ {H₁ H₂ : Heap} {v : V}, Outc P m b (e.put a.dst va) H₁ v H₂ ↔ Outc P m b e H₁ v H₂ := fun {_ _ _} => outc_congr fun t ht => put_other fun k hk => (u1 k hk).1 t ht
  have ca : ∀ {H₁ H₂ : Heap} {v v' : V}, Outc P m a (e.put b.dst v') H₁ v H₂ ↔ Outc P m a e H₁ v H₂ := fun {_ _ _ _} => outc_congr fun t ht => put_other fun k hk => u2 k hk t ht
  rw [cb] at h3
  have hput : (e.put b.dst vb).put a.dst va = (e.put a.dst va).put b.dst vb := (put_comm fun k hk => (u1 k hk).2).symm
  have fin : ∀ {H₁ H₂ : Heap}, Outc P m b e H vb H₁ → Outc P m a e H₁ va H₂ → k ((e.put b.dst vb).put a.dst va) H₂ → runOp P (some m) b e H fun e H => runOp P (some m) a e H k := by
    intro H₁ H₂ g1 g2 g3
    rw [runOp_outc hb3]
    refine ⟨vb, H₁, g1, ?_⟩
    rw [runOp_outc ha3]
    exact ⟨va, H₂, ca.2 g2, g3⟩
  rcases hcls with ((((⟨h5, h6⟩ | ⟨h5, h6⟩) | ⟨h5, h6⟩) | ⟨h5, h6⟩) | h5) | h5
  · -- a of values alone
    obtain ⟨rfl, g⟩ := outc_zero (H' := Hb) h5 h1
    exact fin h3 g (by rw [hput]; exact h4)
  · -- b of values alone
    obtain ⟨rfl, g⟩ := outc_zero (H' := H) h5 h3
    exact fin g h1 (by rw [hput]; exact h4)
  · -- a reads
    have hH : Ha = H := (outc_one (H' := H) h5 h1 (.refl _ _)).1
    subst hH
    obtain ⟨_, g⟩ := outc_one (H' := Hb) h5 h1 (outc_look h6 hm h3)
    exact fin h3 g (by rw [hput]; exact h4)
  · -- b reads
    have hH : Hb = Ha := (outc_one (H' := Ha) h5 h3 (.refl _ _)).1
    subst hH
    obtain ⟨_, g⟩ := outc_one (H' := H) h5 h3 (outc_look h6 hm h1).symm
    exact fin g h1 (by rw [hput]; exact h4)
  · -- a loads what b does not write
    have hc1 : a.o.cls = 1 := by
      obtain ⟨_, _, _, _, _, _, _, h6, _⟩ := apartOf_inv h5
      rw [h6]; rfl
    have hH : Ha = H := (outc_one (H' := H) hc1 h1 (.refl _ _)).1
    subst hH
    exact fin h3 ((outc_apart h5 h3).1 h1).2 (by rw [hput]; exact h4)
  · -- b loads what a does not write
    obtain ⟨rfl, g⟩ := (outc_apart h5 h1).2 h3
    exact fin g h1 (by rw [hput]; exact h4)

theorem callD_mono {fv : V} {as : List V} {H : Heap} {K K' : V → Heap → Prop} (h : callD P fv as H K) (hk : ∀ r H', H.length ≤ H'.length → K r H' → K' r H') : callD P fv as H K' := by
  unfold callD at h ⊢
  split at h
  · obtain ⟨n, r, h1, h2, h3⟩ := h
    refine ⟨n, r, h1, h2, hk _ _ ?_ h3⟩
    obtain ⟨X, hX⟩ := adopt_append r (if r.loose = true then H else (lend n H _).1)
    rw [hX]
    split <;> simp [lend_len]
  · exact h.elim

theorem callC_mono {fv : V} {as : List V} {H : Heap} {K K' : V → Heap → Prop} (h : callC P fv as H K) (hk : ∀ r H', H.length ≤ H'.length → K r H' → K' r H') : callC P fv as H K' := by
  unfold callC at h ⊢
  split at h
  · obtain ⟨r, h1, h2, h3, h4⟩ := h
    exact ⟨r, h1, h2, h3, hk _ _ (Nat.le_refl _) h4⟩
  · exact h.elim

theorem callP_mono {fv : V} {as : List V} {H : Heap} {K K' : V → Heap → Prop} (h : callP P fv as H K) (hk : ∀ r H', H.length ≤ H'.length → K r H' → K' r H') : callP P fv as H K' := by
  rcases h with h | h
  · exact .inl (callD_mono h hk)
  · right
    split at h
    · refine ⟨h.1, fun Out ρ w ca hI hs hr => (h.2 Out ρ w ca hI hs hr).mono ?_⟩
      rintro e w' ⟨c, r, H', ρ', h1, t, h2, h3, h4⟩
      exact ⟨c, r, H', ρ', h1, t, h2, h3, hk r H' t.len h4⟩
    · refine ⟨h.1, h.2.1, fun Out ρ w ca hI hs hr => ?_⟩
      obtain ⟨f, tmps, A, B, h1, h2⟩ := h.2.2 Out ρ w ca hI hs hr
      refine ⟨f, tmps, A, B, h1, fun F n hF => (h2 F n hF).mono ?_⟩
      rintro e w' ⟨c, r, H', ρ', h1, t, h2, h3, h4⟩
      exact ⟨c, r, H', ρ', h1, t, h2, h3, hk r H' t.len h4⟩
    · exact h.elim

theorem runOp_mono {lim : Option Nat} {o : Op} {e : Env} {H : Heap} {k k' : Env → Heap → Prop} (h : runOp P lim o e H k) (hk : ∀ e' H', H.length ≤ H'.length → k e' H' → k' e' H') : runOp P lim o e H k' := by
  unfold runOp at h ⊢
  split at h
  · split at h
    · exact callD_mono h fun r H' hl hh => hk _ _ hl hh
    · exact callP_mono h fun r H' hl hh => hk _ _ hl hh
    · exact callC_mono h fun r H' hl hh => hk _ _ hl hh
    · split at h
      · rename_i p hp
        exact hk _ _ (stepO_len (v := p.1) (H₁ := p.2) hp) h
      · exact h.elim
  · exact hk _ _ (Nat.le_refl _) h
  · exact h.elim

end
end Fe
namespace Fe
open Go Go.RowKit

section
variable {P : Program}

/-! ### Every order that a region may draw -/
theorem runOps_mono {lim : Option Nat} : ∀ {os : List Op} {e : Env} {H : Heap} {k k' : Env → Heap → Prop}, runOps P lim os e H k → (∀ e' H', H.length ≤ H'.length → k e' H' → k' e' H') → runOps P lim os e H k'
  | [], e, H, k, k', h, hk => hk e H (Nat.le_refl _) h
  | o :: os, e, H, k, k', h, hk => by
    rw [runOps_cons] at h ⊢
    exact runOp_mono h fun e' H' hl h' => runOps_mono h' fun e'' H'' hl' h'' => hk _ _ (Nat.le_trans hl hl') h''

/-- An operation that commutes with all ahead of it may go first. -/
theorem bubble {m : Nat} {i : Op} : ∀ {pre post : List Op} {e : Env} {H : Heap} {k : Env → Heap → Prop}, (∀ j ∈ pre, commutes j i = true) → m ≤ H.length →
    runOps P (some m) (pre ++ i :: post) e H k → runOps P (some m) (i :: (pre ++ post)) e H k
  | [], post, e, H, k, _, _, h => h
  | j :: pre, post, e, H, k, hc, hm, h => by
    simp only [List.cons_append] at h ⊢
    rw [runOps_cons] at h
    have h1 : runOp P (some m) j e H fun e H => runOps P (some m) (i :: (pre ++ post)) e H k :=
      runOp_mono h fun e' H' hl h' => bubble (fun x hx => hc x (List.mem_cons_of_mem _ hx)) (Nat.le_trans hm hl) h'
    have h2 : runOp P (some m) j e H fun e H => runOp P (some m) i e H fun e H => runOps P (some m) (pre ++ post) e H k :=
      runOp_mono h1 fun e' H' _ h' => by rw [runOps_cons] at h'; exact h'
    have h3 := swap (hc j (List.mem_cons_self ..)) hm h2
    rw [runOps_cons]
    refine runOp_mono h3 fun e' H' _ h' => ?_
    rw [runOps_cons]
    exact h'

theorem befores_len (ops : List Oper) : (befores ops).length = ops.length := by
  unfold befores
  have : ∀ (l : List Oper) (T : List Nat), (l.foldl (fun T o => T ++ [(preds o).foldl (fun s j => s ||| 2 ^ j ||| T.getD j 0) 0]) T).length = T.length + l.length := by
    intro l
    induction l with
    | nil => intro T; simp
    | cons o l ih => intro T; rw [List.foldl_cons, ih, List.length_append, List.length_cons, List.length_cons, List.length_nil]; omega
  rw [this]; simp

theorem fold_bit (T : List Nat) : ∀ (l : List Nat) (s b : Nat), (l.foldl (fun s j => s ||| 2 ^ j ||| T.getD j 0) s).testBit b = true → s.testBit b = true ∨ ∃ j ∈ l, j = b ∨ (T.getD j 0).testBit b = true
  | [], s, b, h => .inl h
  | j :: l, s, b, h => by
    simp only [List.foldl_cons] at h
    rcases fold_bit T l _ b h with h | ⟨q, hq, h⟩
    · simp only [Nat.testBit_or,Bool.or_eq_true,Nat.testBit_two_pow,decide_eq_true_eq] at h
      rcases h with (h | h) | h
      · exact .inl h
      · exact .inr ⟨j, List.mem_cons_self .., .inl h⟩
      · exact .inr ⟨j, List.mem_cons_self .., .inr h⟩
    · exact .inr ⟨q, List.mem_cons_of_mem _ hq, h⟩

/-- A set that holds what each of its members wants ahead. -/
def Down (ops : List Oper) (S : Nat → Prop) : Prop := ∀ i o, ops[i]? = some o → S i → ∀ j ∈ preds o, S j

theorem befores_spec (ops : List Oper) {S : Nat → Prop} : ∀ (n i : Nat) (o : Oper), Down ops S → (∀ i o, ops[i]? = some o → ∀ j ∈ preds o, j < i) → i < n → ops[i]? = some o → (∀ j ∈ preds o, S j) → ∀ b, ((befores ops).getD i 0).testBit b = true → S b
  | 0, i, o, _, _, hi, _, _, b, _ => absurd hi (Nat.not_lt_zero _)
  | n + 1, i, o, hd, hlt, hi, ho, hp, b, hb => by
    have split : ∀ (l : List Oper) (T : List Nat) (k : Nat), k < T.length → (l.foldl (fun T o => T ++ [(preds o).foldl (fun s j => s ||| 2 ^ j ||| T.getD j 0) 0]) T).getD k 0 = T.getD k 0 := by
      intro l
      induction l with
      | nil => intro T k _; rfl
      | cons x l ih =>
        intro T k hk
        simp only [List.foldl_cons]
        rw [ih _ _ (by simp; omega)]
        simp [List.getD, List.getElem?_append_left hk]
    have hil := getElem?_lt ho
    have hsplit : ops = ops.take i ++ o :: ops.drop (i + 1) := by
      rw [List.getElem?_eq_getElem hil] at ho
      cases ho
      simp
    have key : (befores ops).getD i 0 = (preds o).foldl (fun s j => s ||| 2 ^ j ||| (befores ops).getD j 0) 0 := by
      have h1 : befores ops = (o :: ops.drop (i + 1)).foldl (fun T o => T ++ [(preds o).foldl (fun s j => s ||| 2 ^ j ||| T.getD j 0) 0]) (befores (ops.take i)) := by
        conv => lhs; rw [hsplit]
        unfold befores
        rw [List.foldl_append]
      have hlen : (befores (ops.take i)).length = i := by rw [befores_len]; simp; omega
      have hpre : ∀ k, k < i → (befores ops).getD k 0 = (befores (ops.take i)).getD k 0 := by
        intro k hk
        rw [h1, split _ _ _ (by rw [hlen]; exact hk)]
      have hat : (befores ops).getD i 0 = (preds o).foldl (fun s j => s ||| 2 ^ j ||| (befores (ops.take i)).getD j 0) 0 := by
        rw [h1, List.foldl_cons, split _ _ _ (by simp [hlen])]
        simp [List.getD, List.getElem?_append_right, hlen]
      rw [hat]
      have : ∀ (l : List Nat) (s : Nat), (∀ j ∈ l, j < i) → l.foldl (fun s j => s ||| 2 ^ j ||| (befores (ops.take i)).getD j 0) s = l.foldl (fun s j => s ||| 2 ^ j ||| (befores ops).getD j 0) s := by
        intro l
        induction l with
        | nil => intro s _; rfl
        | cons x l ih =>
          intro s hl
          simp only [List.foldl_cons]
          rw [hpre x (hl x (List.mem_cons_self ..)), ih _ (fun j hj => hl j (List.mem_cons_of_mem _ hj))]
      exact this _ _ (hlt i o ho)
    rw [key] at hb
    rcases fold_bit _ _ _ _ hb with h | ⟨j, hj, h | h⟩
    · simp at h
    · subst h; exact hp j hj
    · have hji := hlt i o ho j hj
      have hjl : j < ops.length := by omega
      exact befores_spec ops n j ops[j] hd hlt (by omega) (List.getElem?_eq_getElem hjl) (hd j _ (List.getElem?_eq_getElem hjl) (hp j hj)) b h

theorem preds_iff {ops : Array Oper} {i : Nat} {o : Oper} {listed : Array Bool} (ho : ops[i]? = some o) :
    ((ops[i]?).map (·.after.all fun e => !Region.binds .any e || listed.getD e.on false)).getD false = true ↔ ∀ j ∈ preds o, listed.getD j false = true := by
  rw [ho]
  simp only [Option.map_some,Option.getD_some,Array.all_eq_true_iff_forall_mem,preds,List.mem_map,List.mem_filter,Bool.or_eq_true,Bool.not_eq_true']
  constructor
  · rintro h j ⟨e, ⟨he, hb⟩, rfl⟩
    rcases h e (Array.mem_toList_iff.1 he) with h1 | h1
    · rw [h1] at hb; cases hb
    · exact h1
  · intro h e he
    cases hb : Region.binds .any e with
    | false => exact .inl rfl
    | true => exact .inr (h _ ⟨e, ⟨Array.mem_toList_iff.2 he, hb⟩, rfl⟩)

/-- An order that the language allows: it does what the text's does. -/
def Order (P : Program) (ops : Array Oper) (cops : List Op) (m : Nat) (listed : Array Bool) (σ : List Nat) : Prop :=
  (∀ i ∈ σ, i < ops.size) ∧ ∀ (e : Env) (H : Heap) (k : Env → Heap → Prop), m ≤ H.length →
    runOps P (some m) (((List.range ops.size).filter fun i => !listed.getD i true).map fun i => cops.getD i default) e H k →
    runOps P (some m) (σ.map fun i => cops.getD i default) e H k

/-- Whatever is drawn: the operations in that order do what they do in the text's. -/
theorem linear_sound {m : Nat} {ops : Array Oper} {cops : List Op} (hok : drawOK ops.toList cops = true) :
    ∀ (fuel t : Nat) (listed : Array Bool) (acc : List Nat), listed.size = ops.size →
      ((List.range ops.size).filter fun i => !listed.getD i true).length = fuel → Down ops.toList (fun i => listed.getD i false = true) →
      ∃ σ : List Nat, Region.linearise.go .any ops fuel t listed acc = acc.reverse ++ σ ∧ Order P ops cops m listed σ
  | 0, t, listed, acc, hs, hf, hd => by
    have : ((List.range ops.size).filter fun i => !listed.getD i true) = [] := List.length_eq_zero_iff.1 hf
    refine ⟨[], by simp [Region.linearise.go], fun i hi => by simp at hi, fun e H k _ hr => ?_⟩
    rw [this] at hr
    exact hr
  | fuel + 1, t, listed, acc, hs, hf, hd => by
    have hok' := hok
    simp only [drawOK,List.all_eq_true,List.mem_range,Bool.and_eq_true,decide_eq_true_eq,Bool.or_eq_true] at hok
    have hops : ops.toList.length = ops.size := by simp
    have hlt : ∀ i o, ops.toList[i]? = some o → ∀ j ∈ preds o, j < i := by
      intro i o ho j hj
      have hi := getElem?_lt ho
      have := (hok i hi).1 j (by rw [List.getD_eq_getElem?_getD, ho]; exact hj)
      exact this
    have hgetT : ∀ i, i < ops.size → listed.getD i true = listed.getD i false := by
      intro i hi
      have : i < listed.size := by omega
      simp only [Array.getD,this,dif_pos]
    generalize hrem : ((List.range ops.size).filter fun i => !listed.getD i true) = rem at *
    have hmem : ∀ i, i ∈ rem ↔ i < ops.size ∧ listed.getD i true = false := by
      intro i; rw [← hrem]; simp [List.mem_filter]
    have hsorted : rem.Pairwise (· < ·) := by rw [← hrem]; exact List.Pairwise.filter _ List.pairwise_lt_range
    -- one that may go next
    have hex : ∃ i, i ∈ rem ∧ ∀ j ∈ rem, i ≤ j := by
      cases rem with
      | nil => simp at hf
      | cons x l =>
        refine ⟨x, List.mem_cons_self .., fun j hj => ?_⟩
        rcases List.mem_cons.1 hj with rfl | hj
        · exact Nat.le_refl _
        · exact Nat.le_of_lt ((List.pairwise_cons.1 hsorted).1 j hj)
    have hopsL : ∀ i : Nat, ops.toList[i]? = ops[i]? := fun i => Array.getElem?_toList ..
    have hrs : ∀ i, i ∈ ((List.range ops.size).filter fun i => !listed.getD i true && ((ops[i]?).map (·.after.all fun e => !Region.binds .any e || listed.getD e.on false)).getD false) ↔
        i ∈ rem ∧ ∃ o, ops[i]? = some o ∧ ∀ j ∈ preds o, listed.getD j false = true := by
      intro i
      simp only [List.mem_filter,List.mem_range,Bool.and_eq_true,Bool.not_eq_true',hmem]
      constructor
      · rintro ⟨h1, h2, h3⟩
        have ho : ops[i]? = some ops[i] := Array.getElem?_eq_getElem h1
        exact ⟨⟨h1, h2⟩, _, ho, (preds_iff ho).1 h3⟩
      · rintro ⟨⟨h1, h2⟩, o, ho, h3⟩
        exact ⟨h1, h2, (preds_iff ho).2 h3⟩
    simp only [Region.linearise.go]
    generalize hrsl : ((List.range ops.size).filter fun i => !listed.getD i true && ((ops[i]?).map (·.after.all fun e => !Region.binds .any e || listed.getD e.on false)).getD false) = rs at *
    obtain ⟨i₁, hi₁, hmin⟩ := hex
    have hne : i₁ ∈ rs := by
      have hb := ((hmem i₁).1 hi₁).1
      have ho : ops[i₁]? = some ops[i₁] := Array.getElem?_eq_getElem hb
      refine (hrs i₁).2 ⟨hi₁, _, ho, fun j hj => ?_⟩
      have hji := hlt i₁ _ (by rw [hopsL]; exact ho) j hj
      have hjs : j < ops.size := by omega
      rw [← hgetT j hjs]
      cases hb2 : listed.getD j true with
      | true => rfl
      | false =>
        have := hmin j ((hmem j).2 ⟨hjs, hb2⟩)
        omega
    have hpos : 0 < rs.length := List.length_pos_of_mem hne
    have hidx : t % rs.length < rs.length := Nat.mod_lt _ hpos
    rw [List.getElem?_eq_getElem hidx]
    simp only
    generalize hi : rs[t % rs.length] = i
    have hirs : i ∈ rs := by rw [← hi]; exact List.getElem_mem hidx
    obtain ⟨hir, o, ho, hpr⟩ := (hrs i).1 hirs
    have hib := ((hmem i).1 hir).1
    obtain ⟨pre, post, hpp⟩ := List.append_of_mem hir
    have hnd : rem.Nodup := hsorted.imp (fun h => Nat.ne_of_lt h)
    have hprelt : ∀ j ∈ pre, j < i := by
      intro j hj
      rw [hpp, List.pairwise_append] at hsorted
      exact hsorted.2.2 j hj i (List.mem_cons_self ..)
    have hcomm : ∀ c ∈ pre.map (fun i => cops.getD i default), commutes c (cops.getD i default) = true := by
      intro c hc
      obtain ⟨j, hj, rfl⟩ := List.mem_map.1 hc
      have hji := hprelt j hj
      have hjrem : j ∈ rem := by rw [hpp]; exact List.mem_append_left _ hj
      rcases (hok i (by rw [hops]; exact hib)).2 j hji with h | h
      · exfalso
        have := befores_spec ops.toList (S := fun i => listed.getD i false = true) (i + 1) i o hd hlt (by omega) (by rw [hopsL]; exact ho) hpr j h
        rw [← hgetT j (by omega), ((hmem j).1 hjrem).2] at this
        cases this
      · exact h
    have hset : ∀ x, x < ops.size → ∀ d, ((listed.setIfInBounds i true).getD x d = if x = i then true else listed.getD x d) := by
      intro x hx d
      have h1 : x < listed.size := by omega
      simp only [Array.getD,Array.size_setIfInBounds,h1,dif_pos]
      by_cases hxi : x = i
      · subst hxi; simp
      · rw [if_neg hxi]
        exact Array.getElem_setIfInBounds_ne (by simpa using h1) (Ne.symm hxi)
    have hrem' : ((List.range ops.size).filter fun j => !(listed.setIfInBounds i true).getD j true) = pre ++ post := by
      have h1 : ((List.range ops.size).filter fun j => !(listed.setIfInBounds i true).getD j true) = rem.filter (fun j => j != i) := by
        rw [← hrem, List.filter_filter]
        apply List.filter_congr
        intro j hj
        simp only [List.mem_range] at hj
        rw [hset j hj]
        by_cases hji : j = i
        · simp [hji]
        · simp [hji]
      rw [h1, hpp, List.filter_append, List.filter_cons]
      have hnd' := hnd
      rw [hpp] at hnd'
      have e1 : pre.filter (fun j => j != i) = pre := List.filter_eq_self.2 fun j hj => by
        simp only [bne_iff_ne]
        exact Nat.ne_of_lt (hprelt j hj)
      have e2 : post.filter (fun j => j != i) = post := List.filter_eq_self.2 fun j hj => by
        simp only [bne_iff_ne]
        rintro rfl
        rw [List.nodup_append] at hnd'
        exact (List.nodup_cons.1 hnd'.2.1).1 hj
      rw [e1, e2]
      simp
    have hlenr : (pre ++ post).length = fuel := by
      rw [hpp] at hf
      simp at hf ⊢
      omega
    have hdown : Down ops.toList (fun j => (listed.setIfInBounds i true).getD j false = true) := by
      intro j oj hoj hj q hq
      have hjb : j < ops.size := by rw [hopsL] at hoj; exact (Array.getElem?_eq_some_iff.1 hoj).1
      have hql := hlt j oj hoj q hq
      show (listed.setIfInBounds i true).getD q false = true
      rw [hset q (by omega)]
      by_cases hqi : q = i
      · simp [hqi]
      · rw [if_neg hqi]
        have hj2 : (listed.setIfInBounds i true).getD j false = true := hj
        rw [hset j hjb] at hj2
        by_cases hjeq : j = i
        · subst hjeq
          rw [hopsL, ho] at hoj
          cases hoj
          exact hpr q hq
        · rw [if_neg hjeq] at hj2
          exact hd j oj hoj hj2 q hq
    obtain ⟨σ, hσ, hσb, hσo⟩ := linear_sound (m := m) (cops := cops) hok' fuel (t / rs.length) (listed.setIfInBounds i true) (i :: acc) (by simp [hs]) (by rw [hrem']; exact hlenr) hdown
    refine ⟨i :: σ, by rw [hσ]; simp, ?_, fun e H k hm hr => ?_⟩
    · intro j hj
      rcases List.mem_cons.1 hj with rfl | hj
      · exact hib
      · exact hσb j hj
    · rw [hrem, hpp, List.map_append, List.map_cons] at hr
      have hr2 := bubble hcomm hm hr
      rw [runOps_cons] at hr2
      rw [List.map_cons, runOps_cons]
      refine runOp_mono hr2 fun e' H' hl h' => ?_
      refine hσo e' H' k (Nat.le_trans hm hl) ?_
      rw [hrem', List.map_append]
      exact h'

/-- A whole region's order. -/
theorem schedule_sound {m t : Nat} {ops : Array Oper} {cops : List Op} (hlen : cops.length = ops.size) (hok : drawOK ops.toList cops = true) {e : Env} {H : Heap} {k : Env → Heap → Prop} (hm : m ≤ H.length)
    (hr : runOps P (some m) cops e H k) :
    (∀ i ∈ Region.schedule true ops t, i < ops.size) ∧ runOps P (some m) ((Region.schedule true ops t).map fun i => cops.getD i default) e H k := by
  have hall : ((List.range ops.size).filter fun i => !(Array.replicate ops.size false).getD i true) = List.range ops.size := by
    apply List.filter_eq_self.2
    intro i hi
    simp only [List.mem_range] at hi
    simp [Array.getD, hi]
  obtain ⟨σ, hσ, hb, ho⟩ := linear_sound (P := P) (m := m) hok ops.size t (Array.replicate ops.size false) [] (by simp) (by rw [hall]; simp) (by
    intro i o ho hs
    exfalso
    revert hs
    simp only [Array.getD]
    split <;> simp)
  have heq : Region.schedule true ops t = σ := by
    show Region.linearise .any ops t = σ
    unfold Region.linearise
    rw [hσ]
    simp
  rw [heq]
  refine ⟨hb, ho e H k hm ?_⟩
  rw [hall, ← hlen]
  have : (List.range cops.length).map (fun i => cops.getD i default) = cops := by
    apply List.ext_getElem (by simp)
    intro i h1 h2
    simp at h1
    simp [List.getD, h1]
  rw [this]
  exact hr

end
end Fe
namespace Fe
open Go Go.RowKit

/-! ### Whole codes -/
/-- The marks that ranges over functions leave among the deferred calls, and their blocks. -/
def Marks (n₀ : Nat) (ρ : Nat → Nat) (H : Heap) (w : World) : List Deferred → Prop
  | [] => True
  | d :: D => (∃ r, d = { target := .collected r, args := #[] } ∧ n₀ ≤ r ∧ r < w.heap.size ∧ ¬ Mut ρ H r ∧ w.heap[r]? = some (.deferred (some [])) ∧ ∀ d' ∈ D, d' ≠ { target := .collected r, args := #[] }) ∧ Marks n₀ ρ H w D

theorem Marks.step {n₀ : Nat} {ρ ρ' : Nat → Nat} {H H' : Heap} {w w' : World} (t : Tr ρ H w ρ' H' w') : ∀ {D : List Deferred}, Marks n₀ ρ H w D → Marks n₀ ρ' H' w' D
  | [], _ => trivial
  | d :: D, ⟨⟨r, h1, h2, h3, h4, h5, h6⟩, h⟩ => ⟨⟨r, h1, h2, Nat.lt_of_lt_of_le h3 t.size, fun hm => h4 (t.wrt r h3 hm), (t.keep r h3 h4).trans h5, h6⟩, h.step t⟩

theorem Marks.lt {n₀ : Nat} {ρ : Nat → Nat} {H : Heap} {w : World} : ∀ {D : List Deferred}, Marks n₀ ρ H w D → ∀ d ∈ D, ∃ r, d = { target := .collected r, args := #[] } ∧ r < w.heap.size
  | [], _, d, hd => by simp at hd
  | d :: D, ⟨⟨r, h1, h2, h3, h4, h5, h6⟩, h⟩, d', hd => by
    rcases List.mem_cons.1 hd with rfl | hd
    · exact ⟨r, h1, h3⟩
    · exact h.lt d' hd

section
variable {P : Program} {Out : Nat → Prop} {N n : Nat} {D : List Deferred} {F : Fence}

theorem stripOpsAt_inv {mode : Nat} {ops : Array Oper} {T : List Nat} : ∀ {os : List Oper} {i : Nat} {cl : List Op}, stripOpsAt P N mode ops T i os = some cl →
    cl.length = os.length ∧ ∀ j (h : j < os.length), ∃ pure, stripOp P N pure ops os[j] = some (cl.getD j default)
  | [], i, cl, h => by
    cases h
    exact ⟨rfl, fun j hj => absurd hj (Nat.not_lt_zero _)⟩
  | o :: os, i, cl, h => by
    simp only [stripOpsAt,Option.bind_eq_bind,Option.bind_eq_some_iff,Option.pure_def,Option.some.injEq] at h
    obtain ⟨c, hc, cs, hcs, rfl⟩ := h
    obtain ⟨h1, h2⟩ := stripOpsAt_inv hcs
    refine ⟨by simp [h1], fun j hj => ?_⟩
    cases j with
    | zero => exact ⟨_, hc⟩
    | succ j => simpa using h2 j (by simpa using hj)

theorem strips_of {mode : Nat} {ops : Array Oper} {T : List Nat} {cl : List Op} (h : stripOpsAt P N mode ops T 0 ops.toList = some cl) : ∀ {σ : List Nat}, (∀ i ∈ σ, i < ops.size) →
    Strips P N ops σ (σ.map fun i => cl.getD i default)
  | [], _ => .nil
  | i :: σ, hσ => by
    obtain ⟨h1, h2⟩ := stripOpsAt_inv h
    have hi := hσ i (List.mem_cons_self ..)
    obtain ⟨pure, hp⟩ := h2 i (by simpa using hi)
    refine .cons (pure := pure) (o := ops[i]) (Array.getElem?_eq_getElem hi) ?_ (strips_of h fun j hj => hσ j (List.mem_cons_of_mem _ hj))
    simpa using hp

theorem strong_none : ∀ {l : List Op}, l.map (Op.strong none) = l
  | [] => rfl
  | o :: l => by rw [List.map_cons, strong_none]; rfl

theorem tryDraw_inv {mode : Nat} {st : Bool} {ops : Array Oper} {cl : List Op} (h : tryDraw P N ops mode st = some cl) : ∃ T cl₀ av, stripOpsAt P N mode ops T 0 ops.toList = some cl₀ ∧ cl = cl₀.map (Op.strong av) ∧ drawOK ops.toList cl = true := by
  unfold tryDraw at h
  split at h
  · rename_i c1 h1
    by_cases hok : drawOK ops.toList (c1.map (Op.strong (if st = true then some (storesOf c1) else none))) = true
    · simp only [if_pos hok,Option.some.injEq] at h
      subst h
      exact ⟨_, c1, _, h1, rfl, hok⟩
    · simp only [if_neg hok] at h
      cases h
  · cases h

theorem stripRegion_inv {draw : Bool} {ops : Array Oper} {cl : List Op} (h : stripRegion P N draw ops = some cl) : ∃ mode T cl₀ av, stripOpsAt P N mode ops T 0 ops.toList = some cl₀ ∧ cl = cl₀.map (Op.strong av) ∧ (draw = true → drawOK ops.toList cl = true) ∧ (draw = false → cl₀ = cl) := by
  have fin : ∀ {mode : Nat} {st : Bool}, draw = true → tryDraw P N ops mode st = some cl → ∃ mode T cl₀ av, stripOpsAt P N mode ops T 0 ops.toList = some cl₀ ∧ cl = cl₀.map (Op.strong av) ∧ (draw = true → drawOK ops.toList cl = true) ∧ (draw = false → cl₀ = cl) := by
    intro mode st hd h
    obtain ⟨T, cl₀, av, h1, h2, h3⟩ := tryDraw_inv h
    exact ⟨mode, T, cl₀, av, h1, h2, fun _ => h3, fun h => by rw [hd] at h; cases h⟩
  unfold stripRegion at h
  split at h
  · rename_i hd
    split at h
    · rename_i l hl; cases h; exact fin hd hl
    · split at h
      · rename_i l hl; cases h; exact fin hd hl
      · split at h
        · rename_i l hl; cases h; exact fin hd hl
        · exact fin hd h
  · rename_i hd
    exact ⟨0, [], cl, none, h, strong_none.symm, fun h => absurd h hd, fun _ => rfl⟩

/-- What keeps off is also what it was. -/
theorem runOps_strong {lim : Option Nat} {av : Option (List X)} {K : Env → Heap → Prop} : ∀ {l : List Op} {e : Env} {H : Heap}, runOps P lim (l.map (Op.strong av)) e H K → runOps P lim l e H K
  | [], e, H, h => h
  | o :: l, e, H, h => by
    rw [List.map_cons, runOps_cons] at h
    rw [runOps_cons]
    have h' : runOp P lim (o.strong av) e H fun e H => runOps P lim l e H K := runOp_mono h fun e' H' _ h => runOps_strong h
    cases av with
    | none => exact h'
    | some av =>
      obtain ⟨d, oc, g⟩ := o
      cases oc with
      | op o' =>
        cases o' with
        | load ag s a =>
          simp only [Op.strong,O.strong] at h'
          unfold runOp at h' ⊢
          simp only at h' ⊢
          split at h'
          · simp only [stepO] at h' ⊢
            split at h'
            · rename_i p hp
              split at hp
              · rw [hp]; exact h'
              · cases hp
            · exact h'.elim
          · exact h'
          · exact h'
        | _ => exact h'
      | _ => exact h'

/-- A postcondition, with the marks. -/
def LiftM (P : Program) (Out : Nat → Prop) (N : Nat) (ρ₀ : Nat → Nat) (H₀ : Heap) (w₀ : World) (K : Cont) : Exit → Act → World → Prop := fun x a w =>
  ∃ cx e H ρ D, x = Ex.to cx ∧ K cx e H ∧ HInv P Out ρ H w ∧ ERel Out ρ H w e a ∧ AInv N D a ∧ Marks w₀.heap.size ρ H w D ∧ Tr ρ₀ H₀ w₀ ρ H w

theorem lift_marks {D : List Deferred} {ρ₀ ρ : Nat → Nat} {H₀ H : Heap} {w₀ w : World} {K : Cont} (ht : Tr ρ₀ H₀ w₀ ρ H w) (hM : Marks w₀.heap.size ρ H w D) : ∀ x a w', Lift P Out N D ρ H w K x a w' → LiftM P Out N ρ₀ H₀ w₀ K x a w' := by
  rintro x a w' ⟨cx, e, H', ρ', h1, h2, h3, h4, h5, h6⟩
  exact ⟨cx, e, H', ρ', D, h1, h2, h3, h4, h5, hM.step h6, ht.trans h6⟩

theorem world_drew {ρ : Nat → Nat} {H : Heap} {w : World} (k : Nat) (hI : HInv P Out ρ H w) : HInv P Out ρ H { w with drawn := k } ∧ Tr ρ H w ρ H { w with drawn := k } := by
  have t : Tr ρ H w ρ H { w with drawn := k } := ⟨rfl, rfl, rfl, Nat.le_refl _, fun _ _ _ => rfl, Nat.le_refl _, fun _ _ => Nat.le_refl _, fun _ _ _ => ⟨rfl, rfl, fun arr T fz h => ⟨arr, T, fz, h, rfl⟩⟩, fun _ _ h => h⟩
  exact ⟨hI.kept t fun _ _ => rfl, t⟩

/-- What the evaluator answers, the machine does. -/
theorem run_sound (hmix : P.follows .mixedOrders = true) : ∀ {F : Fence}, Wide P F → ∀ {code : Code} {c : C}, stripCode P N code = some c → ∀ {K : Cont} {ρ₀ : Nat → Nat} {H₀ : Heap} {w₀ : World} {e : Env} {H : Heap} {ρ : Nat → Nat} {D : List Deferred} {a : Act} {w : World},
    F.round = none ∨ c.norf = true → run P c e H K → HInv P Out ρ H w → ERel Out ρ H w e a → AInv N D a → Marks w₀.heap.size ρ H w D → Tr ρ₀ H₀ w₀ ρ H w → code.wpIn F n P (LiftM P Out N ρ₀ H₀ w₀ K) a w
  | F, hF, .skip, c, hs, K, ρ₀, H₀, w₀, e, H, ρ, D, a, w, hro, hr, hI, hE, hA, hM, ht => by
    cases hs
    exact wpIn_skip ⟨.normal, e, H, ρ, D, rfl, hr, hI, hE, hA, hM, ht⟩
  | F, hF, .label l, c, hs, K, ρ₀, H₀, w₀, e, H, ρ, D, a, w, hro, hr, hI, hE, hA, hM, ht => by
    cases hs
    exact wpIn_label ⟨.normal, e, H, ρ, D, rfl, hr, hI, hE, hA, hM, ht⟩
  | F, hF, .region id ops draw, c, hs, K, ρ₀, H₀, w₀, e, H, ρ, D, a, w, hro, hr, hI, hE, hA, hM, ht => by
    simp only [stripCode] at hs
    split at hs
    · rename_i cops hreg
      cases hs
      simp only [run] at hr
      obtain ⟨mode, T, cl₀, av, hc, hcl, hok, hno⟩ := stripRegion_inv hreg
      have hlen := (stripOpsAt_inv hc).1
      cases draw with
      | false =>
        obtain rfl := hno rfl
        have := strips_of hc (σ := List.range ops.size) (fun i hi => List.mem_range.1 hi)
        have heq : (List.range ops.size).map (fun i => cl₀.getD i default) = cl₀ := by
          rw [show ops.size = cl₀.length by rw [hlen]; simp]
          apply List.ext_getElem (by simp)
          intro i h1 h2
          simp at h1
          simp [List.getD, h1]
        rw [heq] at this
        exact wpIn_mono (wpIn_region (runOps_sound hF this hr hI hE hA (.refl _ _ _))) (lift_marks ht hM)
      | true =>
        refine wpIn_mono (Q := Lift P Out N D ρ H w K) (wpIn_region_draw fun t => ?_) (lift_marks ht hM)
        rw [hmix]
        obtain ⟨hI', t'⟩ := world_drew (w.drawn + 1) hI
        obtain ⟨hb, hr'⟩ := schedule_sound (t := t) (by rw [hcl, List.length_map, hlen]; simp) (hok rfl) (Nat.le_refl H.length) hr
        have hmap : ∀ {σ : List Nat}, (∀ i ∈ σ, i < ops.size) → (σ.map fun i => cops.getD i default) = (σ.map fun i => cl₀.getD i default).map (Op.strong av) := by
          intro σ hσ
          rw [List.map_map]
          refine List.map_congr_left fun i hi => ?_
          have : i < cl₀.length := by rw [hlen]; simpa using hσ i hi
          simp [hcl, List.getD, this]
        rw [hmap hb] at hr'
        have hr' := runOps_strong hr'
        exact runOps_sound hF (strips_of hc hb) hr' hI' (hE.step t') hA t'
    · cases hs
      exact hr.elim
  | F, hF, .seq x y, c, hs, K, ρ₀, H₀, w₀, e, H, ρ, D, a, w, hro, hr, hI, hE, hA, hM, ht => by
    simp only [stripCode,Option.bind_eq_bind,Option.bind_eq_some_iff,Option.pure_def,Option.some.injEq] at hs
    obtain ⟨cx, hx, cy, hy, rfl⟩ := hs
    simp only [run] at hr
    refine wpIn_seq (wpIn_mono (run_sound hmix hF hx (hro.imp id (by simp only [C.norf,Bool.and_eq_true]; exact And.left)) hr hI hE hA hM ht) ?_)
    rintro x' a' w' ⟨cx', e', H', ρ', D', rfl, hK, hI', hE', hA', hM', ht'⟩
    cases cx' with
    | normal => exact run_sound hmix hF hy (hro.imp id (by simp only [C.norf,Bool.and_eq_true]; exact And.right)) hK hI' hE' hA' hM' ht'
    | exit id => exact ⟨.exit id, e', H', ρ', D', rfl, hK, hI', hE', hA', hM', ht'⟩
    | ret => exact ⟨.ret, e', H', ρ', D', rfl, hK, hI', hE', hA', hM', ht'⟩
  | F, hF, .cond x p q, c, hs, K, ρ₀, H₀, w₀, e, H, ρ, D, a, w, hro, hr, hI, hE, hA, hM, ht => by
    simp only [stripCode,Option.bind_eq_bind,Option.bind_eq_some_iff,Option.pure_def,Option.some.injEq] at hs
    obtain ⟨cx, hx, cp, hp, cq, hq, rfl⟩ := hs
    simp only [run] at hr
    split at hr
    · rename_i t ht'
      have hrel := stripX_rel hI hE hx
      rw [ht'] at hrel
      refine wpIn_cond_split hrel.bool_inv (fun h => ?_) (fun h => ?_)
      · exact run_sound hmix hF hp (hro.imp id (by simp only [C.norf,Bool.and_eq_true]; exact And.left)) (hr.1 h) hI hE hA hM ht
      · exact run_sound hmix hF hq (hro.imp id (by simp only [C.norf,Bool.and_eq_true]; exact And.right)) (hr.2 h) hI hE hA hM ht
    · rename_i ht'
      have hrel := stripX_rel hI hE hx
      rw [ht'] at hrel
      cases hc : a.eval x with
      | bool t =>
        refine wpIn_cond_split hc (fun h => ?_) (fun h => ?_)
        · exact run_sound hmix hF hp (hro.imp id (by simp only [C.norf,Bool.and_eq_true]; exact And.left)) hr.1 hI hE hA hM ht
        · exact run_sound hmix hF hq (hro.imp id (by simp only [C.norf,Bool.and_eq_true]; exact And.right)) hr.2 hI hE hA hM ht
      | _ => rw [hc] at hrel; cases hrel
    · exact hr.elim
  | F, hF, .block id x, c, hs, K, ρ₀, H₀, w₀, e, H, ρ, D, a, w, hro, hr, hI, hE, hA, hM, ht => by
    simp only [stripCode,Option.bind_eq_bind,Option.bind_eq_some_iff,Option.pure_def,Option.some.injEq] at hs
    obtain ⟨cx, hx, rfl⟩ := hs
    simp only [run] at hr
    refine wpIn_block (wpIn_mono (run_sound hmix hF hx (by simpa [C.norf] using hro) hr hI hE hA hM ht) ?_)
    rintro x' a' w' ⟨cx', e', H', ρ', D', rfl, hK, hI', hE', hA', hM', ht'⟩
    cases cx' with
    | normal => exact ⟨.normal, e', H', ρ', D', rfl, hK, hI', hE', hA', hM', ht'⟩
    | exit j =>
      simp only [Cont.block] at hK
      simp only [Ex.to,Exit.inBlock]
      split
      · rename_i h
        rw [if_pos h] at hK
        exact ⟨.normal, e', H', ρ', D', rfl, hK, hI', hE', hA', hM', ht'⟩
      · rename_i h
        rw [if_neg h] at hK
        exact ⟨.exit j, e', H', ρ', D', rfl, hK, hI', hE', hA', hM', ht'⟩
    | ret => exact ⟨.ret, e', H', ρ', D', rfl, hK, hI', hE', hA', hM', ht'⟩
  | F, hF, .loop x, c, hs, K, ρ₀, H₀, w₀, e, H, ρ, D, a, w, hro, hr, hI, hE, hA, hM, ht => by
    simp only [stripCode,Option.bind_eq_bind,Option.bind_eq_some_iff,Option.pure_def,Option.some.injEq] at hs
    obtain ⟨cx, hx, rfl⟩ := hs
    simp only [run] at hr
    obtain ⟨I, m, hm, round⟩ := hr
    intro b k cs hrb hb hroom
    have key : ∀ m e H ρ D a w, I m e H → HInv P Out ρ H w → ERel Out ρ H w e a → AInv N D a → Marks w₀.heap.size ρ H w D → Tr ρ₀ H₀ w₀ ρ H w →
        ∃ ex a' w', LiftM P Out N ρ₀ H₀ w₀ K ex a' w' ∧ ArrivesIn (Machine.fenced P F) P (lone (b.atR a (.code x :: .inLoop x :: k)) cs w) b k cs ex a' w' := by
      intro m
      induction m using Nat.strongRecOn with
      | _ m ih =>
        intro e H ρ D a w hi hI hE hA hM ht
        obtain ⟨ex, a₁, w₁, hq, harr⟩ := run_sound hmix hF hx (by simpa [C.norf] using hro) (round m e H hi) hI hE hA hM ht b (.inLoop x :: k) cs hrb hb hroom
        obtain ⟨cx', e', H', ρ', D', rfl, hK, hI', hE', hA', hM', ht'⟩ := hq
        cases cx' with
        | normal =>
          obtain ⟨m', hlt, hi'⟩ := hK
          obtain ⟨e₂, a₂, w₂, hq₂, harr₂⟩ := ih m' hlt e' H' ρ' D' a₁ w₁ hi' hI' hE' hA' hM' ht'
          exact ⟨e₂, a₂, w₂, hq₂, .of_steps (StepsIn.trans harr (.one (fenced_calm hb hroom rfl) stepR_inLoop)) harr₂⟩
        | exit id => exact ⟨_, a₁, w₁, ⟨.exit id, e', H', ρ', D', rfl, hK, hI', hE', hA', hM', ht'⟩, .pass (x := .inLoop x) rfl (fun _ _ => .inl (by simp [Ex.to])) harr⟩
        | ret => exact ⟨_, a₁, w₁, ⟨.ret, e', H', ρ', D', rfl, hK, hI', hE', hA', hM', ht'⟩, .pass (x := .inLoop x) rfl (fun _ _ => .inl (by simp [Ex.to])) harr⟩
    obtain ⟨ex, a', w', hq, harr⟩ := key m e H ρ D a w hm hI hE hA hM ht
    exact ⟨ex, a', w', hq, .of_steps (.one (fenced_calm hb hroom rfl) stepR_loop) harr⟩
  | F, hF, .exit id, c, hs, K, ρ₀, H₀, w₀, e, H, ρ, D, a, w, hro, hr, hI, hE, hA, hM, ht => by
    cases hs
    exact wpIn_exit ⟨.exit id, e, H, ρ, D, rfl, hr, hI, hE, hA, hM, ht⟩
  | F, hF, .ret, c, hs, K, ρ₀, H₀, w₀, e, H, ρ, D, a, w, hro, hr, hI, hE, hA, hM, ht => by
    cases hs
    exact wpIn_ret ⟨.ret, e, H, ρ, D, rfl, hr, hI, hE, hA, hM, ht⟩
  | F, hF, .rangeFunc g ps A B, c, hs, K, ρ₀, H₀, w₀, e, H, ρ, D, a, w, hro, hr, hI, hE, hA, hM, ht => by
    simp only [stripCode,Option.bind_eq_bind,Option.bind_eq_some_iff,Option.pure_def] at hs
    obtain ⟨x, hx, ca, hca, cb, hcb, hs⟩ := hs
    split at hs
    · rename_i hok
      cases hs
      have hro' : F.round = none := hro.resolve_right (by simp [C.norf])
      simp only [run] at hr
      obtain ⟨⟨f₀, fi₀, cp₀, hfn0⟩, hr⟩ := hr
      refine wpIn_rangeFunc fun fn hfn => ?_
      rw [hro']
      have t1 := Tr.grow (w' := w.alloc (.deferred (some []))) hI (.deferred (some [])) rfl rfl rfl rfl
      have hI1 := hI.grow (w' := w.alloc (.deferred (some []))) (.deferred (some [])) rfl rfl rfl rfl
      have hsz : (w.alloc (.deferred (some []))).heap.size = w.heap.size + 1 := World.size_alloc _ _
      obtain ⟨w2, hw2⟩ : ∃ w2, (w.alloc (.deferred (some []))).alloc (.loop { state := .ready, pending := none, fn, tmps := a.tmps, params := ps, assign := A, body := B, defers := w.heap.size }) = w2 := ⟨_, rfl⟩
      have hI2 : HInv P Out (ext ρ H.length (w.alloc (.deferred (some []))).heap.size) (H ++ [.loop (Strp P ca cb) ps.toList e .ready none]) w2 :=
        hI1.push_loop (fn := fn) (tmps := a.tmps) (ca := A) (cb := B) (ds := w.heap.size) (by rw [← hw2]; rfl) (by rw [← hw2]; rfl) (by rw [← hw2]; rfl) (by rw [← hw2]; simp only [World.alloc,Array.toArray_toList])
          ⟨by rw [hA.size]; exact hca, by rw [hA.size]; exact hcb, by rw [hA.size]; exact hok⟩ (fun t => (hE t).step t1)
      have t2 : Tr ρ H (w.alloc (.deferred (some []))) (ext ρ H.length (w.alloc (.deferred (some []))).heap.size) (H ++ [.loop (Strp P ca cb) ps.toList e .ready none]) w2 :=
        Tr.push hI1 _ (.loop { state := .ready, pending := none, fn, tmps := a.tmps, params := ps, assign := A, body := B, defers := w.heap.size }) (by rw [← hw2]; rfl) (by rw [← hw2]; rfl) (by rw [← hw2]; rfl) (by rw [← hw2]; simp only [World.alloc,Array.toArray_toList])
      have hE2 := (hE.step t1).step t2
      have hl : ext ρ H.length (w.alloc (.deferred (some []))).heap.size H.length = w.heap.size + 1 := by rw [ext_at, hsz]
      have hrelg := stripX_rel hI2 hE2 hx
      have hrely : ∀ i (h : i < [V.yld H.length].length), Rel (ext ρ H.length (w.alloc (.deferred (some []))).heap.size) (H ++ [.loop (Strp P ca cb) ps.toList e .ready none]) (BadIn Out (ext ρ H.length (w.alloc (.deferred (some []))).heap.size) (H ++ [.loop (Strp P ca cb) ps.toList e .ready none])) w2 [V.yld H.length][i] ((#[Value.func (.yield (w.heap.size + 1)) #[] #[]] : Array Value).getD i undef) := by
        intro i hi
        have : i = 0 := by simpa using hi
        subst this
        exact .yld _ _ (by simp) (fun _ => hl.symm)
      rcases callP_calls (ca := #[Value.func (.yield (w.heap.size + 1)) #[] #[]]) hI2 hr hrelg rfl hrely with ⟨f, fi, cp, hfv, hen, hcalls⟩ | ⟨_, _, _, _, _, hfv, _⟩
      · obtain ⟨fnc, k1, k2, k3⟩ := hen
        have k2' : fnc.body.isNone = false := by cases hb : fnc.body <;> simp_all
        have k3' : (fnc.name == "runtime.NumGoroutine") = false := by simpa using k3
        refine ⟨w.heap.size + 1, [{ target := .collected w.heap.size, args := #[] }], w2, { target := .fn (.func f) cp, args := fi ++ #[Value.func (.yield (w.heap.size + 1)) #[] #[]] }, w2, f, fi ++ #[Value.func (.yield (w.heap.size + 1)) #[] #[]] ++ cp, w2, ?_, ?_, fun _ _ => hF.fn _, ?_, fun h => (by rw [hF.depth] at h; cases h), hF.calls (hcalls.mono ?_)⟩
        · rw [← hw2]; exact run_enterLoop_outer _ _ _ _ _
        · simp only [resolve,hfv,Deferred.ofValue,Sem.run_bind,Sem.run_pure,Result.andThen_ok]
          simp only [List.map_toArray,List.map_cons,List.map_nil]
          rfl
        · simp only [invoke,callFunc,program,Sem.run_bind,Sem.run,Result.andThen_ok,k1,k2',k3']
          rfl
        · rintro e' w3 ⟨c', r, H', ρ', rfl, t3, hI3, hrel, st, pend, hk, hst, hK⟩
          obtain ⟨fn', tmps', A', B', ds', hS, hEl, hw3⟩ := hI3.loop _ _ _ _ _ _ hk
          have hg0 : genOf (H ++ [HObj.loop (Strp P ca cb) ps.toList e .ready none]) H.length = 0 := by simp [genOf, HObj.gen]
          have hg3 : genOf H' H.length = 0 := by simp [genOf, hk, HObj.gen]
          have hρ : ρ' H.length = w.heap.size + 1 := by rw [(t3.same H.length (by simp) (by rw [hg0, hg3])).1, hl]
          rw [hρ] at hw3
          have hend := run_endLoop (P := P) hw3 hst
          obtain ⟨t4, hI4⟩ := set_loop (st' := .exhausted) (pend' := pend) (w' := w3.putObj (w.heap.size + 1) (.loop { state := .exhausted, pending := pend, fn := fn', tmps := tmps', params := ps.toList.toArray, assign := A', body := B', defers := ds' })) hI3 hk (by rw [hρ]; exact hw3) rfl rfl rfl (by rw [hρ]; simp [World.putObj])
          have t34 := (t2.trans t3).trans t4
          have hsz0 : w.heap.size < (w.alloc (.deferred (some []))).heap.size := by omega
          have hnm : ¬ Mut ρ H w.heap.size := by
            rintro ⟨k, o, hk, _, he⟩
            have := (hI.lt k (getElem?_lt hk)).1
            omega
          have hM' : Marks w₀.heap.size ρ' (H'.set H.length (.loop (Strp P ca cb) ps.toList e .exhausted pend)) (w3.putObj (w.heap.size + 1) (.loop { state := .exhausted, pending := pend, fn := fn', tmps := tmps', params := ps.toList.toArray, assign := A', body := B', defers := ds' })) ({ target := .collected w.heap.size, args := #[] } :: D) := by
            refine ⟨⟨w.heap.size, rfl, ht.size, Nat.lt_of_lt_of_le hsz0 t34.size, fun hm => hnm (t34.wrt _ hsz0 hm), ?_, fun d' hd' he => ?_⟩, (hM.step t1).step t34⟩
            · rw [t34.keep _ hsz0 hnm]
              exact World.alloc_heap_new w _
            · obtain ⟨r, hr, hlt⟩ := hM.lt d' hd'
              rw [hr] at he
              simp only [Deferred.mk.injEq,Target.collected.injEq] at he
              omega
          have hE4 := (hE.step t1).step t34
          have ht4 := (ht.trans t1).trans t34
          have hA4 : AInv N ({ target := .collected w.heap.size, args := #[] } :: D) { a with defers := [{ target := .collected w.heap.size, args := #[] }] ++ a.defers } := ⟨hA.size, by simp [hA.defers]⟩
          refine ⟨pend, _, hend, ?_⟩
          match pend, hK with
          | none, hK => exact ⟨.normal, e, _, ρ', _, rfl, hK, hI4, hE4, hA4, hM', ht4⟩
          | some .ret, hK => exact wpIn_ret ⟨.ret, e, _, ρ', _, rfl, hK, hI4, hE4, hA4, hM', ht4⟩
          | some (.exit id), hK => exact wpIn_exit ⟨.exit id, e, _, ρ', _, rfl, hK, hI4, hE4, hA4, hM', ht4⟩
      · rw [hfn0] at hrelg
        rw [hfv] at hrelg
        cases hrelg
    · cases hs
      exact hr.elim

/-! ### Rounds -/
def setL (e : Env) : List Nat → List V → Env
  | p :: ps, v :: vs => setL (e.set p v) ps vs
  | _, _ => e

/-- How a round ends. -/
def roundEnd (k : Nat) (S : Nat → List Nat → Code → Code → Prop) (ps : List Nat) (e : Env) (K : V → Heap → Prop) : Cont := fun x _ H => (∃ st pend, H[k]? = some (.loop S ps e st pend)) ∧ match x with
  | .normal => K (.bool true) (H.set k (.loop S ps e .ready none))
  | .exit id => K (.bool false) (H.set k (.loop S ps e .done (some (.exit id))))
  | .ret => K (.bool false) (H.set k (.loop S ps e .done (some .ret)))

theorem setL_rel {ρ : Nat → Nat} {H : Heap} {w : World} : ∀ (ps : List Nat) (as : List V) (cs : List Value) (e : Env) (tmps : Array Value), cs.length = as.length → (∀ i (h : i < as.length), Rel ρ H (BadIn Out ρ H) w as[i] (cs.getD i undef)) →
    (∀ p ∈ ps, p < tmps.size) → (∀ t, Rel ρ H (BadIn Out ρ H) w (e t) (tmps.getD t undef)) →
    (((ps.zip cs).foldl (fun t (p : Nat × Value) => t.setIfInBounds p.1 p.2) tmps).size = tmps.size ∧ ∀ t, Rel ρ H (BadIn Out ρ H) w (setL e ps as t) (((ps.zip cs).foldl (fun t (p : Nat × Value) => t.setIfInBounds p.1 p.2) tmps).getD t undef))
  | [], as, cs, e, tmps, _, _, _, hE => by simpa [setL] using hE
  | p :: ps, [], cs, e, tmps, hl, _, _, hE => by
    obtain rfl := List.length_eq_zero_iff.1 hl
    simpa [setL] using hE
  | p :: ps, v :: vs, c :: cs, e, tmps, hl, hr, hp, hE => by
    simp only [List.zip_cons_cons,List.foldl_cons,setL]
    have h0 := hr 0 (by simp)
    have hlt := hp p (List.mem_cons_self ..)
    obtain ⟨h1, h2⟩ := setL_rel ps vs cs (e.set p v) (tmps.setIfInBounds p c) (by simpa using hl) (fun i hi => hr (i + 1) (by simpa using hi)) (fun q hq => by simpa using hp q (List.mem_cons_of_mem _ hq)) (fun t => (ERel.put (a := { tmps := tmps, defers := [] }) (fun t => hE t) h0 hlt) t)
    exact ⟨by simpa using h1, h2⟩
  | p :: ps, v :: vs, [], e, tmps, hl, _, _, _ => by simp at hl

/-- A round's run makes yield's call. -/
theorem yld_of_run (hmix : P.follows .mixedOrders = true) {k : Nat} {as : List V} {a c : C} {ps : List Nat} {e : Env} {pend : Option Code} {H : Heap} {K : V → Heap → Prop}
    (hk : H[k]? = some (.loop (Strp P a c) ps e .ready pend)) (hl : as.length = ps.length)
    (hr : run P a (setL e ps as) H fun x e' H1 => x = .normal ∧ ∃ pend', H1[k]? = some (.loop (Strp P a c) ps e .ready pend') ∧
      run P c e' (H1.set k (.loop (Strp P a c) ps e .busy pend')) (roundEnd k (Strp P a c) ps e K)) : Yld P k as H K := by
  have hg : genOf H k = 0 := by simp [genOf, hk, HObj.gen]
  refine ⟨getElem?_lt hk, hg, fun Out ρ w ca hI hs hrel => ?_⟩
  obtain ⟨fn, tmps, A, B, ds, ⟨hA, hB, hok⟩, hE, hw⟩ := hI.loop _ _ _ _ _ _ hk
  simp only [roundOK,Bool.and_eq_true,List.all_eq_true,decide_eq_true_eq] at hok
  obtain ⟨⟨hps, hna⟩, hnc⟩ := hok
  have hyield := run_yield (P := P) (args := ca) hw (by simp [hs, hl])
  obtain ⟨hsz, hE'⟩ := setL_rel ps as ca.toList e tmps (by simpa using hs) (fun i hi => by
    have := hrel i hi
    simpa [Array.getD_eq_getD_getElem?, List.getD] using this) hps hE
  have hfold : (ps.toArray.zip ca).foldl (fun tmps (x : Nat × Value) => match x with | (t, a) => tmps.setIfInBounds t a) tmps = (ps.zip ca.toList).foldl (fun t (p : Nat × Value) => t.setIfInBounds p.1 p.2) tmps := by
    rw [← Array.foldl_toList]
    simp
  simp only [hfold] at hyield
  refine ⟨fn, _, A, B, hyield, fun F n hF => roundIn_of_wpIn (hF.fn _) ?_⟩
  refine wpIn_mono (run_sound (N := tmps.size) (D := []) hmix (hF.inRound (ρ k)) hA (.inr hna) hr hI hE' ⟨hsz, rfl⟩ trivial (.refl ρ H w)) ?_
  rintro x' a' w' ⟨cx, e', H1, ρ1, D1, rfl, ⟨rfl, pend', hk1, hr1⟩, hI1, hE1, hA1, hM1, ht1⟩
  have hg1 : genOf H1 k = 0 := by simp [genOf, hk1, HObj.gen]
  have hρ1 : ρ1 k = ρ k := (ht1.same k (getElem?_lt hk) (by rw [hg, hg1])).1
  obtain ⟨fn1, tmps1, A1, B1, ds1, hS1, hEl1, hw1⟩ := hI1.loop _ _ _ _ _ _ hk1
  rw [hρ1] at hw1
  have hbeg := run_beginRound (P := P) hw1 rfl
  obtain ⟨t2, hI2⟩ := set_loop (st' := .busy) (pend' := pend') (w' := w'.putObj (ρ k) (.loop { state := .busy, pending := pend', fn := fn1, tmps := tmps1, params := ps.toArray, assign := A1, body := B1, defers := ds1 })) hI1 hk1 (by rw [hρ1]; exact hw1) rfl rfl rfl (by rw [hρ1]; simp [World.putObj])
  refine ⟨_, hbeg, ?_⟩
  refine wpIn_mono (run_sound (N := tmps.size) hmix (hF.inRound (ρ k)) hB (.inr hnc) hr1 hI2 (hE1.step t2) hA1 (hM1.step t2) (ht1.trans t2)) ?_
  rintro x'' a'' w'' ⟨cx, e'', H3, ρ3, D3, rfl, ⟨⟨st3, pend3, hk3⟩, hK⟩, hI3, hE3, hA3, hM3, ht3⟩
  have hg3 : genOf H3 k = 0 := by simp [genOf, hk3, HObj.gen]
  have hρ3 : ρ3 k = ρ k := (ht3.same k (getElem?_lt hk) (by rw [hg, hg3])).1
  obtain ⟨fn3, tmps3, A3, B3, ds3, hS3, hEl3, hw3⟩ := hI3.loop _ _ _ _ _ _ hk3
  rw [hρ3] at hw3
  have fin : ∀ (jump : Option Code), ∃ w4 ρ4, (Instr.endRound (ρ k) jump).run P w'' = .ok (.bool jump.isNone) w4 ∧ Tr ρ H w ρ4 (H3.set k (.loop (Strp P a c) ps e (if jump.isNone then .ready else .done) jump)) w4 ∧ HInv P Out ρ4 (H3.set k (.loop (Strp P a c) ps e (if jump.isNone then .ready else .done) jump)) w4 := by
    intro jump
    obtain ⟨t4, hI4⟩ := set_loop (st' := if jump.isNone then .ready else .done) (pend' := jump) (w' := w''.putObj (ρ k) (.loop { state := if jump.isNone then .ready else .done, pending := jump, fn := fn3, tmps := tmps3, params := ps.toArray, assign := A3, body := B3, defers := ds3 })) hI3 hk3 (by rw [hρ3]; exact hw3) rfl rfl rfl (by rw [hρ3]; simp [World.putObj])
    exact ⟨_, _, run_endRound (P := P) jump hw3, ht3.trans t4, hI4⟩
  cases cx with
  | normal =>
    obtain ⟨w4, ρ4, h1, h2, h3⟩ := fin none
    exact ⟨_, _, h1, _, .bool true, _, _, rfl, h2, h3, .bool _, hK⟩
  | ret =>
    obtain ⟨w4, ρ4, h1, h2, h3⟩ := fin (some .ret)
    exact ⟨_, _, h1, _, .bool false, _, _, rfl, h2, h3, .bool _, hK⟩
  | exit id =>
    obtain ⟨w4, ρ4, h1, h2, h3⟩ := fin (some (.exit id))
    exact ⟨_, _, h1, _, .bool false, _, _, rfl, h2, h3, .bool _, hK⟩

/-! ### Whole functions -/
structure CF where
  ntmps : Nat
  args : Nat
  res : List O
  body : C
  deriving Inhabited

def stripR (P : Program) : ResultVar → Option O
  | .tmp t => some (.mov (.t t))
  | .cell a t => stripO P (.load t (.tmp a))

/-- One result. -/
def resultV (o : O) (e : Env) (H : Heap) : Option V :=
  match o with
  | .mov x => some (x.ev e)
  | .load agg sz x => loadV H.length agg sz H (x.ev e)
  | _ => none

def resultsV (os : List O) (e : Env) (H : Heap) : Option V :=
  (os.mapM fun o => resultV o e H).map fun vs => match vs with
    | [v] => v
    | vs => .tup vs

def stripF (P : Program) (f : FuncId) : Option CF := do
  let fn ← P.funcs[f]?
  let body ← fn.body
  if fn.name = "runtime.NumGoroutine" then none else
    let c ← stripCode P fn.ntmps body
    let rs ← fn.results.toList.mapM (stripR P)
    return ⟨fn.ntmps, fn.params.size, rs, c⟩

end
end Fe
