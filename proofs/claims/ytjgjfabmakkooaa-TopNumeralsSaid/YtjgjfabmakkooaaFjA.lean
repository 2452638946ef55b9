/-
  Contracts; contracts; contracts. No condition.
-/
import Derived.Test.YtjgjfabmakkooaaFfN
set_option linter.unusedSimpArgs false
set_option linter.unusedVariables false
namespace Fe
open Go Go.RowKit

/-! ### Runs that are reckoned: a frame ar a list, and a call's code out of a table -/
def envOf (l : List V) : Env := fun i => l.getD i .und
def putAt : List V → Nat → V → Option (List V)
  | [], _, _ => none
  | _ :: l, 0, v => some (v :: l)
  | x :: l, i + 1, v => match putAt l i v with
    | some l' => some (x :: l')
    | none => none
theorem putAt_get : ∀ {l : List V} {d : Nat} {v : V} {l' : List V}, putAt l d v = some l' → ∀ i, l'.getD i .und = if i = d then v else l.getD i .und
  | [], d, v, l', h, i => by cases h
  | x :: l, 0, v, l', h, i => by
    cases h
    cases i <;> simp
  | x :: l, d + 1, v, l', h, i => by
    simp only [putAt] at h
    cases hp : putAt l d v with
    | none => rw [hp] at h; cases h
    | some m =>
      rw [hp] at h
      cases h
      cases i with
      | zero => simp
      | succ i =>
        have := putAt_get hp i
        simp only [List.getD_cons_succ,this,Nat.add_right_cancel_iff]
def putO (l : List V) : Option Nat → V → Option (List V)
  | none, _ => some l
  | some d, v => putAt l d v
theorem putO_env {l l' : List V} {d : Option Nat} {v : V} (h : putO l d v = some l') : (envOf l).put d v = envOf l' := by
  cases d with
  | none => cases h; rfl
  | some d =>
    funext i
    simp only [Env.put,Env.set,envOf]
    exact (putAt_get h i).symm

def putL : List V → List Nat → List V → Option (List V)
  | l, p :: ps, v :: vs => match putAt l p v with
    | some l' => putL l' ps vs
    | none => none
  | l, _, _ => some l
theorem putL_env : ∀ {ps : List Nat} {vs l l' : List V}, putL l ps vs = some l' → setL (envOf l) ps vs = envOf l'
  | [], vs, l, l', h => by simp only [putL] at h; cases h; rfl
  | p :: ps, [], l, l', h => by simp only [putL] at h; cases h; rfl
  | p :: ps, v :: vs, l, l', h => by
    simp only [putL] at h
    cases hp : putAt l p v with
    | none => rw [hp] at h; cases h
    | some m =>
      rw [hp] at h
      simp only at h
      have e1 : (envOf l).set p v = envOf m := putO_env (d := some p) hp
      simp only [setL,e1]
      exact putL_env h

/-- Loops stay loops. -/
def Keep (H H' : Heap) : Prop := ∀ (k : Nat) (S : Nat → List Nat → Go.Code → Go.Code → Prop) (ps : List Nat) (e : Nat → V) (st : LoopState) (pend : Option Go.Code), H[k]? = some (HObj.loop S ps e st pend) → ∃ st' pend', H'[k]? = some (HObj.loop S ps e st' pend')
theorem Keep.refl (H : Heap) : Keep H H := fun _ _ _ _ st pend h => ⟨st, pend, h⟩
theorem Keep.trans {H H' H'' : Heap} (h : Keep H H') (h' : Keep H' H'') : Keep H H'' := fun k S ps e st pend hk => by
  obtain ⟨st', pend', h1⟩ := h k S ps e st pend hk
  exact h' k S ps e st' pend' h1
theorem Keep.push (H X : Heap) : Keep H (H ++ X) := fun k S ps e st pend h => ⟨st, pend, by rw [List.getElem?_append_left (getElem?_lt h)]; exact h⟩
theorem Keep.set {H : Heap} {k : Nat} {o x : HObj} (hk : H[k]? = some o) (ho : ∀ S ps e st pend, o ≠ .loop S ps e st pend) : Keep H (H.set k x) := fun j S ps e st pend h => by
  refine ⟨st, pend, ?_⟩
  rw [List.getElem?_set_ne]
  · exact h
  · rintro rfl
    rw [hk] at h
    cases h
    exact ho _ _ _ _ _ rfl
theorem Keep.setl {H : Heap} {k : Nat} {S : Nat → List Nat → Go.Code → Go.Code → Prop} {ps : List Nat} {e : Nat → V} {st st' : LoopState} {pend pend' : Option Go.Code} (hk : H[k]? = some (.loop S ps e st pend)) : Keep H (H.set k (.loop S ps e st' pend')) := fun j S' ps' e' s' p' h => by
  by_cases hj : k = j
  · subst hj
    rw [hk] at h
    cases h
    exact ⟨st', pend', by rw [List.getElem?_set_self (getElem?_lt hk)]⟩
  · exact ⟨s', p', by rw [List.getElem?_set_ne hj]; exact h⟩

theorem keep_freeze (H : Heap) (ks : List Nat) : Keep H (freezeL H ks) := fun k S ps e st pend h => by
  refine ⟨st, pend, ?_⟩
  rw [freezeL_get, h]
  simp only [Option.map_some]
  split <;> rfl
theorem keep_lend : ∀ (n : Nat) (H : Heap) (vs : List V), Keep H (lend n H vs).1
  | 0, H, vs => .refl _
  | n + 1, H, vs => (keep_freeze H (refsL vs)).trans (keep_lend n _ _)

theorem stepO_keep {lim : Nat} {o : O} {e : Env} {H H₁ : Heap} {v : V} (h : stepO lim o e H = some (v, H₁)) : Keep H H₁ := by
  by_cases h0 : o.cls = 0
  · rw [(stepO_zero (lim' := lim) (H' := H) h0 h).1]; exact .refl _
  · by_cases h1 : o.cls = 1
    · rw [(stepO_one h1 h (LimEq.refl _ _)).1]; exact .refl _
    · by_cases h2 : o.cls = 2
      · obtain ⟨X, rfl⟩ := stepO_two h2 h; exact .push _ _
      · cases o <;> simp only [O.cls] at h0 h1 h2 <;> first | (exact absurd trivial h0) | (exact absurd trivial h1) | (exact absurd trivial h2) | skip
        case conv k x => cases k <;> simp at h0 h1
        case store s x y =>
          simp only [stepO] at h
          split at h
          · split at h
            · rename_i hk
              split at h
              · cases h; exact .set hk (fun _ _ _ _ _ h => by cases h)
              · cases h
            · cases h
          · cases h
        case append s b x y =>
          simp only [stepO,appendV] at h
          split at h
          · cases h
          · split at h
            · split at h
              · split at h
                · cases h; exact .refl _
                · split at h
                  · cases h; exact .push _ _
                  · cases h
              · cases h
            · split at h
              · split at h
                · cases h; exact .refl _
                · split at h
                  · rename_i hk
                    split at h
                    · cases h; exact .set hk (fun _ _ _ _ _ h => by cases h)
                    · cases h
                  · cases h
              · cases h
            · cases h
        case next x =>
          simp only [stepO] at h
          split at h
          · split at h
            · rename_i hk
              split at h
              · cases h; exact .set hk (fun _ _ _ _ _ h => by cases h)
              · cases h; exact .refl _
            · cases h
          · cases h
        case lookup c g z x y =>
          simp only [stepO] at h
          split at h
          · cases h; exact .refl _
          · split at h
            · obtain ⟨r, hr, hp⟩ := map_pair h
              cases hp; exact .refl _
            · cases h
          · cases h
        case mapset c x y z =>
          simp only [stepO] at h
          split at h
          · split at h
            · rename_i hk
              obtain ⟨r, hr, hp⟩ := map_pair h
              cases hp; exact .set hk (fun _ _ _ _ _ h => by cases h)
            · cases h
          · cases h
        case mapdel c x y =>
          simp only [stepO] at h
          split at h
          · split at h
            · rename_i hk
              obtain ⟨r, hr, hp⟩ := map_pair h
              cases hp; exact .set hk (fun _ _ _ _ _ h => by cases h)
            · cases h
          · cases h
        case mlen x =>
          simp only [stepO] at h
          split at h
          · cases h; exact .refl _
          · split at h
            · cases h; exact .refl _
            · cases h
          · cases h
        case clear s z x =>
          simp only [stepO] at h
          split at h
          · split at h
            · rename_i hk
              split at h
              · cases h; exact .set hk (fun _ _ _ _ _ h => by cases h)
              · cases h
            · cases h
          · cases h

/-- What is told of a call at a heap without its code. -/
abbrev Ext := FuncId → List V → Heap → Option (V × Heap)
def ExtOK (P : Program) (X : Ext) : Prop := ∀ f ar H v H', X f ar H = some (v, H') → Keep H H' ∧ Call2 P f ar H fun r H₁ => r = v ∧ H₁ = H'
abbrev Codes := FuncId → Option CF
def CodesOK (P : Program) (T : Codes) : Prop := ∀ f cf, T f = some cf → stripF P f = some cf
/-- A range over a function that is under way. -/
structure LoopG where
  k : Nat
  a : C
  c : C
  ps : List Nat
  l : List V
def findG : List LoopG → Nat → Option LoopG
  | [], _ => none
  | g :: G, k => if g.k = k then some g else findG G k
def GOK (P : Program) (G : List LoopG) (H : Heap) : Prop := ∀ g ∈ G, ∃ st pend, H[g.k]? = some (.loop (Strp P g.a g.c) g.ps (envOf g.l) st pend)
theorem GOK.keep {P : Program} {G : List LoopG} {H H' : Heap} (h : GOK P G H) (hk : Keep H H') : GOK P G H' := fun g hg => by
  obtain ⟨st, pend, h1⟩ := h g hg
  exact hk _ _ _ _ _ _ h1
theorem findG_mem : ∀ {G : List LoopG} {k : Nat} {g : LoopG}, findG G k = some g → g ∈ G ∧ g.k = k
  | [], k, g, h => by cases h
  | x :: G, k, g, h => by
    simp only [findG] at h
    split at h
    · rename_i hk
      cases h
      exact ⟨List.mem_cons_self .., hk⟩
    · obtain ⟨h1, h2⟩ := findG_mem h
      exact ⟨List.mem_cons_of_mem _ h1, h2⟩

/-- Lent ar far ar it must be. -/
def lendAll : Nat → Heap → List V → Option (Nat × List V)
  | 0, _, _ => none
  | n + 1, H, vs => if roL vs = true then some (0, vs) else match lendAll n (freezeL H (refsL vs)) (borL H vs) with
    | some (k, us) => some (k + 1, us)
    | none => none
theorem lendAll_eq : ∀ {n : Nat} {H : Heap} {vs us : List V} {k : Nat}, lendAll n H vs = some (k, us) → (lend k H vs).2 = us ∧ roL us = true
  | 0, _, _, _, _, h => by cases h
  | n + 1, H, vs, us, k, h => by
    simp only [lendAll] at h
    split at h
    · rename_i hro
      cases h
      exact ⟨rfl, hro⟩
    · cases hl : lendAll n (freezeL H (refsL vs)) (borL H vs) with
      | none => rw [hl] at h; cases h
      | some p =>
        obtain ⟨k', us'⟩ := p
        rw [hl] at h
        cases h
        show (lend k' (freezeL H (refsL vs)) (borL H vs)).2 = us ∧ _
        exact lendAll_eq hl

abbrev R := Option (Ex × List V × Heap)
abbrev IH := List LoopG → C → List V → Heap → R
/-- A call's run, by the run of codes. -/
def evCall (T : Codes) (ih : IH) (G : List LoopG) (f : FuncId) (ar : List V) (H : Heap) : Option (V × Heap) :=
  match T f with
  | none => none
  | some cf => if ar.length ≤ cf.ntmps then
      match ih G cf.body (ar ++ List.replicate (cf.ntmps - ar.length) .und) H with
      | some (.normal, l, H') => (resultsV cf.res (envOf l) H').map fun v => (v, H')
      | some (.ret, l, H') => (resultsV cf.res (envOf l) H').map fun v => (v, H')
      | _ => none
    else none
/-- A round. -/
def evYld (P : Program) (ih : IH) (G : List LoopG) (k : Nat) (ar : List V) (H : Heap) : Option (V × Heap) :=
  match findG G k with
  | none => none
  | some g => match H[k]? with
    | some (.loop _ _ _ .ready _) => if ar.length = g.ps.length then
        match putL g.l g.ps ar with
        | some l1 => match ih G g.a l1 H with
          | some (.normal, l2, H2) => match H2[k]? with
            | some (.loop _ _ _ .ready pend) => match ih G g.c l2 (H2.set k (.loop (Strp P g.a g.c) g.ps (envOf g.l) .busy pend)) with
              | some (.normal, _, H3) => some (.bool true, H3.set k (.loop (Strp P g.a g.c) g.ps (envOf g.l) .ready none))
              | some (.exit id, _, H3) => some (.bool false, H3.set k (.loop (Strp P g.a g.c) g.ps (envOf g.l) .done (some (.exit id))))
              | some (.ret, _, H3) => some (.bool false, H3.set k (.loop (Strp P g.a g.c) g.ps (envOf g.l) .done (some .ret)))
              | none => none
            | _ => none
          | _ => none
        | none => none
      else none
    | _ => none
def evAt (P : Program) (T : Codes) (X : Ext) (ih : IH) (G : List LoopG) (fv : V) (ar : List V) (H : Heap) : Option (V × Heap) :=
  match fv with
  | .fn g fi cp => match X g (fi ++ ar ++ cp) H with
    | some p => some p
    | none => evCall T ih G g (fi ++ ar ++ cp) H
  | .yld k => evYld P ih G k ar H
  | _ => none
def evOps (P : Program) (T : Codes) (X : Ext) (ih : IH) (G : List LoopG) (lim : Option Nat) : List Op → List V → Heap → Option (List V × Heap)
  | [], l, H => some (l, H)
  | o :: os, l, H =>
    match wantedV (envOf l) o.guard with
    | some true => match o.o with
      | .call false f ar => match evAt P T X ih G (f.ev (envOf l)) (ar.map (·.ev (envOf l))) H with
        | some (v, H') => match putO l o.dst v with
          | some l' => evOps P T X ih G lim os l' H'
          | none => none
        | none => none
      | .call true f ar => match f.ev (envOf l) with
        | .fn g fi cp => match lendAll 6 H (fi ++ ar.map (·.ev (envOf l)) ++ cp) with
          | some (k, us) => match evAt P T X ih [] (.fn g [] []) us [] with
            | some (v, H1) => match lendAll 6 H1 [v] with
              | some (_, [r]) => (match putO l o.dst r.weak with
                | some l' => evOps P T X ih G lim os l' (if r.weak.loose = true then H else (lend k H (fi ++ ar.map (·.ev (envOf l)) ++ cp)).1)
                | none => none)
              | _ => none
            | none => none
          | none => none
        | _ => none
      | .callc f ar => match f.ev (envOf l) with
        | .fn g fi cp => if roL (fi ++ ar.map (·.ev (envOf l)) ++ cp) = true then
            match evAt P T X ih [] (.fn g [] []) (fi ++ ar.map (·.ev (envOf l)) ++ cp) [] with
            | some (v, H1) => match lendAll 6 H1 [v] with
              | some (_, [r]) => (match putO l o.dst r.weak with
                | some l' => evOps P T X ih G lim os l' H
                | none => none)
              | _ => none
            | none => none
          else none
        | _ => none
      | .op o' => match stepO (lim.getD H.length) o' (envOf l) H with
        | some p => match putO l o.dst p.1 with
          | some l' => evOps P T X ih G lim os l' p.2
          | none => none
        | none => none
    | some false => match putO l o.dst (.tup []) with
      | some l' => evOps P T X ih G lim os l' H
      | none => none
    | none => none
def evC (P : Program) (T : Codes) (X : Ext) (ih : IH) (G : List LoopG) : C → List V → Heap → R
  | .skip, l, H => some (.normal, l, H)
  | .region draw os, l, H => match evOps P T X ih G (if draw = true then some H.length else none) os l H with
    | some (l', H') => some (.normal, l', H')
    | none => none
  | .seq a b, l, H => match evC P T X ih G a l H with
    | some (.normal, l', H') => evC P T X ih G b l' H'
    | r => r
  | .cond x a b, l, H => match x.ev (envOf l) with
    | .bool true => evC P T X ih G a l H
    | .bool false => evC P T X ih G b l H
    | _ => none
  | .block id c, l, H => match evC P T X ih G c l H with
    | some (.exit i, l', H') => some (if i = id then .normal else .exit i, l', H')
    | r => r
  | .loop c, l, H => match evC P T X ih G c l H with
    | some (.normal, l', H') => ih G (.loop c) l' H'
    | r => r
  | .exit id, l, H => some (.exit id, l, H)
  | .ret, l, H => some (.ret, l, H)
  | .rangef g ps a c, l, H => match g.ev (envOf l) with
    | .fn f fi cp => match evCall T ih (⟨H.length, a, c, ps, l⟩ :: G) f (fi ++ [.yld H.length] ++ cp) (H ++ [.loop (Strp P a c) ps (envOf l) .ready none]) with
      | some (_, H1) => match H1[H.length]? with
        | some (.loop _ _ _ st pend) => if st = .busy then none else match pend with
          | none => some (.normal, l, H1.set H.length (.loop (Strp P a c) ps (envOf l) .exhausted none))
          | some .ret => some (.ret, l, H1.set H.length (.loop (Strp P a c) ps (envOf l) .exhausted (some .ret)))
          | some (.exit id) => some (.exit id, l, H1.set H.length (.loop (Strp P a c) ps (envOf l) .exhausted (some (.exit id))))
          | some _ => none
        | _ => none
      | none => none
    | _ => none
  | .bad, _, _ => none
def ev (P : Program) (T : Codes) (X : Ext) (n : Nat) : IH := Nat.rec (fun _ _ _ _ => none) (fun _ ih G => evC P T X ih G) n

/-- All that a run comes to. -/
def Comes (P : Program) (c : C) (l : List V) (H : Heap) (x : Ex) (l' : List V) (H' : Heap) : Prop := Keep H H' ∧ ∀ K : Cont, K x (envOf l') H' → run P c (envOf l) H K
def IhOK (P : Program) (ih : IH) : Prop := ∀ G c l H x l' H', GOK P G H → ih G c l H = some (x, l', H') → Comes P c l H x l' H'

section
variable {P : Program} {T : Codes} {X : Ext} {ih : IH}

theorem envOf_enter {ar : List V} {n : Nat} : envOf (ar ++ List.replicate n .und) = enterEnv ar := by
  funext i
  simp only [envOf,enterEnv,List.getD_eq_getElem?_getD]
  rcases Nat.lt_or_ge i ar.length with h | h
  · rw [List.getElem?_append_left h]
  · rw [List.getElem?_append_right h, List.getElem?_eq_none h]
    rcases Nat.lt_or_ge (i - ar.length) n with h2 | h2
    · simp [List.getElem?_replicate, h2]
    · simp [List.getElem?_replicate, Nat.not_lt.2 h2]

theorem evCall_run (hT : CodesOK P T) (hih : IhOK P ih) {G : List LoopG} {f : FuncId} {ar : List V} {H : Heap} {v : V} {H' : Heap} (hG : GOK P G H) (h : evCall T ih G f ar H = some (v, H')) :
    Keep H H' ∧ ∃ cf, stripF P f = some cf ∧ ar.length ≤ cf.ntmps ∧ ∀ K : V → Heap → Prop, K v H' → run P cf.body (enterEnv ar) H (Done cf.res K) := by
  simp only [evCall] at h
  cases hf : T f with
  | none => rw [hf] at h; cases h
  | some cf =>
    rw [hf] at h
    simp only at h
    split at h
    · rename_i hl
      rw [← envOf_enter (n := cf.ntmps - ar.length)]
      split at h
      · rename_i l H1 hr
        obtain ⟨u, hu, hp⟩ := Option.map_eq_some_iff.1 h
        cases hp
        obtain ⟨h1, h2⟩ := hih _ _ _ _ _ _ _ hG hr
        exact ⟨h1, cf, hT _ _ hf, hl, fun K hK => h2 _ ⟨.inl rfl, _, hu, hK⟩⟩
      · rename_i l H1 hr
        obtain ⟨u, hu, hp⟩ := Option.map_eq_some_iff.1 h
        cases hp
        obtain ⟨h1, h2⟩ := hih _ _ _ _ _ _ _ hG hr
        exact ⟨h1, cf, hT _ _ hf, hl, fun K hK => h2 _ ⟨.inr rfl, _, hu, hK⟩⟩
      · cases h
    · cases h

theorem evYld_run (hmix : P.follows .mixedOrders = true) (hih : IhOK P ih) {G : List LoopG} {k : Nat} {ar : List V} {H : Heap} {v : V} {H' : Heap} (hG : GOK P G H) (h : evYld P ih G k ar H = some (v, H')) :
    Keep H H' ∧ ∀ K : V → Heap → Prop, K v H' → Yld P k ar H K := by
  simp only [evYld] at h
  split at h
  · cases h
  · rename_i g hg
    obtain ⟨hm, rfl⟩ := findG_mem hg
    split at h
    · rename_i S0 ps0 e0 pend0 hk
      obtain ⟨st, pend, hk'⟩ := hG g hm
      rw [hk] at hk'
      cases hk'
      split at h
      · rename_i hl
        split at h
        · rename_i l1 hp
          split at h
          · rename_i l2 H2 ha
            obtain ⟨a1, a2⟩ := hih _ _ _ _ _ _ _ hG ha
            split at h
            · rename_i S1 ps1 e1 pend1 hk2
              obtain ⟨st2, pend2, hk2'⟩ := a1 _ _ _ _ _ _ hk
              rw [hk2] at hk2'
              cases hk2'
              have k3 : Keep H2 (H2.set g.k (.loop (Strp P g.a g.c) g.ps (envOf g.l) .busy pend1)) := .setl hk2
              have hG3 := (hG.keep a1).keep k3
              have fin : ∀ {x : Ex} {l3 : List V} {H3 : Heap} {u : V} {st3 : LoopState} {pd : Option Go.Code}, ih G g.c l2 (H2.set g.k (.loop (Strp P g.a g.c) g.ps (envOf g.l) .busy pend1)) = some (x, l3, H3) →
                  (∀ (K : V → Heap → Prop) e, K u (H3.set g.k (.loop (Strp P g.a g.c) g.ps (envOf g.l) st3 pd)) → (∃ st pend, H3[g.k]? = some (.loop (Strp P g.a g.c) g.ps (envOf g.l) st pend)) → roundEnd g.k (Strp P g.a g.c) g.ps (envOf g.l) K x e H3) →
                  Keep H (H3.set g.k (.loop (Strp P g.a g.c) g.ps (envOf g.l) st3 pd)) ∧ ∀ K : V → Heap → Prop, K u (H3.set g.k (.loop (Strp P g.a g.c) g.ps (envOf g.l) st3 pd)) → Yld P g.k ar H K := by
                intro x l3 H3 u st3 pd hc hend
                obtain ⟨c1, c2⟩ := hih _ _ _ _ _ _ _ hG3 hc
                obtain ⟨st4, pend4, hk4⟩ := (k3.trans c1) _ _ _ _ _ _ hk2
                refine ⟨((a1.trans k3).trans c1).trans (.setl hk4), fun K hK => ?_⟩
                refine yld_of_run hmix hk hl ?_
                rw [putL_env hp]
                exact a2 _ ⟨rfl, _, hk2, c2 _ (hend K _ hK ⟨_, _, hk4⟩)⟩
              split at h
              · rename_i l3 H3 hc
                cases h
                exact fin hc fun K e hK he => ⟨he, hK⟩
              · rename_i id l3 H3 hc
                cases h
                exact fin hc fun K e hK he => ⟨he, hK⟩
              · rename_i l3 H3 hc
                cases h
                exact fin hc fun K e hK he => ⟨he, hK⟩
              · cases h
            · cases h
          · cases h
        · cases h
      · cases h
    · cases h

theorem evAt_run (hmix : P.follows .mixedOrders = true) (hT : CodesOK P T) (hX : ExtOK P X) (hih : IhOK P ih) {G : List LoopG} {fv : V} {ar : List V} {H : Heap} {v : V} {H' : Heap} (hG : GOK P G H) (h : evAt P T X ih G fv ar H = some (v, H')) :
    Keep H H' ∧ ∀ K : V → Heap → Prop, K v H' → callP P fv ar H K := by
  cases fv with
  | fn g fi cp =>
    simp only [evAt] at h
    split at h
    · rename_i p hx
      cases h
      obtain ⟨h1, h2⟩ := hX _ _ _ _ _ hx
      refine ⟨h1, fun K hK => .inr ?_⟩
      show Call2 P g (fi ++ ar ++ cp) H K
      refine call2_mono h2 ?_
      rintro r H2 ⟨rfl, rfl⟩
      exact hK
    · obtain ⟨h0, cf, h1, h2, h3⟩ := evCall_run hT hih hG h
      refine ⟨h0, fun K hK => .inr ?_⟩
      show Call2 P g (fi ++ ar ++ cp) H K
      exact call2_of_run hmix h1 h2 (h3 _ hK)
  | yld k =>
    obtain ⟨h1, h2⟩ := evYld_run hmix hih hG h
    exact ⟨h1, fun K hK => .inr (h2 K hK)⟩
  | _ => cases h

theorem gok_nil {P : Program} {H : Heap} : GOK P [] H := fun g hg => by simp at hg

/-- A call at no heap, for the caller. -/
theorem good_of_call2 {f : FuncId} {ar : List V} {r : V} (h : Call2 P f ar [] fun v H => Gives H v r) : Good P f ar r := by
  refine ⟨h.1, fun Bad w ca hbad hbase hca hrel => ?_⟩
  have hI : HInv P Bad (fun k => k) [] w := ⟨hbad, fun i j hi => absurd hi (Nat.not_lt_zero _), fun k hk => absurd hk (Nat.not_lt_zero _), fun k _ _ _ _ h => by simp at h, fun k _ _ h => by simp at h, fun k _ _ _ _ _ h => by simp at h, fun k _ h => by simp at h, hbase.same (Nat.le_refl _) (fun _ _ _ => rfl) (fun B _ h => by
    rcases h with h | ⟨k, o, hk, _⟩
    · exact h
    · simp at hk)⟩
  have hb : ∀ B, BadIn Bad (fun k => k) [] B → Bad B := by
    rintro B (h | ⟨k, o, hk, _⟩)
    · exact h
    · simp at hk
  have hbe : BadIn Bad (fun k => k) [] = Bad := funext fun B => propext ⟨hb B, .inl⟩
  refine (h.2 Bad (fun k => k) w ca hI hca (fun i hi => by rw [hbe]; exact hrel i hi)).mono ?_
  rintro e w' ⟨c, v, H', ρ', rfl, ht, hI', hrel', hg⟩
  refine ⟨c, rfl, ⟨ht.os, ht.tape, ht.output, ht.size, fun B hB => ht.keep B hB ?_⟩, gives_res hI' ht hrel' hg⟩
  rintro ⟨k, o, hk, _⟩
  simp at hk

theorem evAt_good (hmix : P.follows .mixedOrders = true) (hT : CodesOK P T) (hX : ExtOK P X) (hih : IhOK P ih) {g : FuncId} {us : List V} {v r : V} {H' : Heap} (h : evAt P T X ih [] (.fn g [] []) us [] = some (v, H')) (hg : Gives H' v r) : Good P g us r := by
  simp only [evAt,List.nil_append,List.append_nil] at h
  split at h
  · rename_i p hx
    cases h
    refine good_of_call2 (call2_mono (hX _ _ _ _ _ hx).2 ?_)
    rintro r1 H2 ⟨rfl, rfl⟩
    exact hg
  · obtain ⟨_, cf, h1, h2, h3⟩ := evCall_run hT hih gok_nil h
    exact good_of_run hmix h1 h2 (h3 _ hg)

theorem evOps_run (hmix : P.follows .mixedOrders = true) (hT : CodesOK P T) (hX : ExtOK P X) (hih : IhOK P ih) {G : List LoopG} {lim : Option Nat} : ∀ {os : List Op} {l : List V} {H : Heap} {l' : List V} {H' : Heap}, GOK P G H → evOps P T X ih G lim os l H = some (l', H') →
    Keep H H' ∧ ∀ K : Env → Heap → Prop, K (envOf l') H' → runOps P lim os (envOf l) H K
  | [], l, H, l', H', hG, h => by cases h; exact ⟨.refl _, fun K hK => hK⟩
  | o :: os, l, H, l', H', hG, h => by
    simp only [evOps] at h
    simp only [runOps]
    split at h
    · rename_i hw
      rw [hw]
      simp only
      split at h
      · rename_i f ar ho
        rw [ho]
        simp only
        split at h
        · rename_i v H1 hc
          obtain ⟨k1, hcall⟩ := evAt_run hmix hT hX hih hG hc
          split at h
          · rename_i l1 hp
            obtain ⟨k2, rest⟩ := evOps_run hmix hT hX hih (hG.keep k1) h
            refine ⟨k1.trans k2, fun K hK => hcall _ ?_⟩
            rw [putO_env hp]
            exact rest K hK
          · cases h
        · cases h
      · rename_i f ar ho
        rw [ho]
        simp only
        split at h
        · rename_i g fi cp hfv
          rw [hfv]
          split at h
          · rename_i k us hl
            obtain ⟨hl1, hl2⟩ := lendAll_eq hl
            split at h
            · rename_i v H1 hc
              split at h
              · rename_i k2 r hl'
                obtain ⟨hr1, hr2⟩ := lendAll_eq hl'
                split at h
                · rename_i l1 hp
                  have k0 : Keep H (if r.weak.loose = true then H else (lend k H (fi ++ ar.map (·.ev (envOf l)) ++ cp)).1) := by
                    split
                    · exact .refl _
                    · exact keep_lend _ _ _
                  obtain ⟨kk, rest⟩ := evOps_run hmix hT hX hih (hG.keep k0) h
                  refine ⟨k0.trans kk, fun K hK => ?_⟩
                  have rest := rest K hK
                  rw [← putO_env hp] at rest
                  have hrr : r.ro = true := by simpa [roL] using hr2
                  have hg : Good P g us r.weak := evAt_good hmix hT hX hih hc (gives_lend k2 hr1 hrr rfl)
                  refine ⟨k, r.weak, by rw [hl1]; exact hl2, by rw [hl1]; exact hg, ?_⟩
                  rw [adopt_ro (weak_ro hrr)]
                  exact rest
                · cases h
              · cases h
            · cases h
          · cases h
        · cases h
      · rename_i f ar ho
        rw [ho]
        simp only
        split at h
        · rename_i g fi cp hfv
          rw [hfv]
          split at h
          · rename_i hro
            split at h
            · rename_i v H1 hc
              split at h
              · rename_i k2 r hl'
                obtain ⟨hr1, hr2⟩ := lendAll_eq hl'
                split at h
                · rename_i l1 hp
                  obtain ⟨kk, rest⟩ := evOps_run hmix hT hX hih hG h
                  refine ⟨kk, fun K hK => ?_⟩
                  have rest := rest K hK
                  rw [← putO_env hp] at rest
                  have hrr : r.ro = true := by simpa [roL] using hr2
                  have hg : Good P g (fi ++ ar.map (·.ev (envOf l)) ++ cp) r.weak := evAt_good hmix hT hX hih hc (gives_lend k2 hr1 hrr rfl)
                  exact ⟨r.weak, hro, weak_ro hrr, hg, rest⟩
                · cases h
              · cases h
            · cases h
          · cases h
        · cases h
      · rename_i o' ho
        rw [ho]
        simp only
        split at h
        · rename_i p hs
          rw [hs]
          simp only
          have k1 := stepO_keep (v := p.1) (H₁ := p.2) hs
          split at h
          · rename_i l1 hp
            obtain ⟨k2, rest⟩ := evOps_run hmix hT hX hih (hG.keep k1) h
            rw [putO_env hp]
            exact ⟨k1.trans k2, rest⟩
          · cases h
        · cases h
    · rename_i hw
      rw [hw]
      simp only
      split at h
      · rename_i l1 hp
        rw [putO_env hp]
        exact evOps_run hmix hT hX hih hG h
      · cases h
    · cases h

theorem run_mono : ∀ {c : C} {e : Env} {H : Heap} {K K' : Cont}, run P c e H K → (∀ x e' H', K x e' H' → K' x e' H') → run P c e H K'
  | .skip, e, H, K, K', h, hk => hk _ _ _ h
  | .region draw os, e, H, K, K', h, hk => runOps_mono h fun e' H' _ h => hk _ _ _ h
  | .seq a b, e, H, K, K', h, hk => run_mono (c := a) h fun x e' H' h => by
    cases x with
    | normal => exact run_mono (c := b) h hk
    | _ => exact hk _ _ _ h
  | .cond y a b, e, H, K, K', h, hk => by
    simp only [run] at h ⊢
    split at h
    · exact ⟨fun ht => run_mono (c := a) (h.1 ht) hk, fun ht => run_mono (c := b) (h.2 ht) hk⟩
    · exact ⟨run_mono (c := a) h.1 hk, run_mono (c := b) h.2 hk⟩
    · exact h
  | .block id c, e, H, K, K', h, hk => run_mono (c := c) h fun x e' H' h => by
    cases x with
    | exit i =>
      simp only [Cont.block] at h ⊢
      split at h
      · rename_i hi; rw [if_pos hi]; exact hk _ _ _ h
      · rename_i hi; rw [if_neg hi]; exact hk _ _ _ h
    | _ => exact hk _ _ _ h
  | .loop c, e, H, K, K', ⟨I, n, h0, hr⟩, hk => ⟨I, n, h0, fun m e' H' hi => run_mono (c := c) (hr m e' H' hi) fun x e2 H2 h => by
    cases x with
    | normal => exact h
    | _ => exact hk _ _ _ h⟩
  | .exit id, e, H, K, K', h, hk => hk _ _ _ h
  | .ret, e, H, K, K', h, hk => hk _ _ _ h
  | .rangef g ps a c, e, H, K, K', h, hk => ⟨h.1, callP_mono h.2 fun r H' _ ⟨st, pend, h1, h2, h3⟩ => ⟨st, pend, h1, h2, by
    split at h3
    · exact hk _ _ _ h3
    · exact hk _ _ _ h3
    · exact hk _ _ _ h3
    · exact h3⟩⟩
  | .bad, e, H, K, K', h, hk => h

theorem loop_run {c : C} {e : Env} {H : Heap} {e1 : Env} {H1 : Heap} {K : Cont} (hb : ∀ K' : Cont, K' .normal e1 H1 → run P c e H K') (hl : run P (.loop c) e1 H1 K) : run P (.loop c) e H K := by
  obtain ⟨J, k, h0, hr⟩ := hl
  refine ⟨fun m e' H' => (m = k + 1 ∧ e' = e ∧ H' = H) ∨ (m ≤ k ∧ J m e' H'), k + 1, .inl ⟨rfl, rfl, rfl⟩, ?_⟩
  rintro m e' H' (⟨rfl, rfl, rfl⟩ | ⟨hm, hj⟩)
  · exact hb _ ⟨k, by omega, .inr ⟨Nat.le_refl _, h0⟩⟩
  · refine run_mono (hr m e' H' hj) fun x e2 H2 h => ?_
    cases x with
    | normal =>
      obtain ⟨m', hm', hj'⟩ := h
      exact ⟨m', hm', .inr ⟨by omega, hj'⟩⟩
    | _ => exact h

theorem evC_run (hmix : P.follows .mixedOrders = true) (hT : CodesOK P T) (hX : ExtOK P X) (hih : IhOK P ih) (G : List LoopG) : ∀ c, ∀ l H x l' H', GOK P G H → evC P T X ih G c l H = some (x, l', H') → Comes P c l H x l' H'
  | .skip, l, H, x, l', H', hG, h => by cases h; exact ⟨.refl _, fun K hK => hK⟩
  | .region draw os, l, H, x, l', H', hG, h => by
    simp only [evC] at h
    split at h
    · rename_i l1 H1 ho
      cases h
      obtain ⟨h1, h2⟩ := evOps_run hmix hT hX hih hG ho
      exact ⟨h1, fun K hK => h2 _ hK⟩
    · cases h
  | .seq a b, l, H, x, l', H', hG, h => by
    simp only [evC] at h
    split at h
    · rename_i l1 H1 ha
      obtain ⟨a1, a2⟩ := evC_run hmix hT hX hih G a _ _ _ _ _ hG ha
      obtain ⟨b1, b2⟩ := evC_run hmix hT hX hih G b _ _ _ _ _ (hG.keep a1) h
      exact ⟨a1.trans b1, fun K hK => a2 _ (b2 K hK)⟩
    · rename_i hne
      obtain ⟨a1, a2⟩ := evC_run hmix hT hX hih G a _ _ _ _ _ hG h
      refine ⟨a1, fun K hK => a2 _ ?_⟩
      cases x with
      | normal => exact absurd h (hne _ _)
      | _ => exact hK
  | .cond y a b, l, H, x, l', H', hG, h => by
    simp only [evC] at h
    simp only [Comes,run]
    split at h
    · rename_i hb
      rw [hb]
      obtain ⟨a1, a2⟩ := evC_run hmix hT hX hih G a _ _ _ _ _ hG h
      exact ⟨a1, fun K hK => ⟨fun _ => a2 K hK, fun h => (by cases h)⟩⟩
    · rename_i hb
      rw [hb]
      obtain ⟨a1, a2⟩ := evC_run hmix hT hX hih G b _ _ _ _ _ hG h
      exact ⟨a1, fun K hK => ⟨fun h => (by cases h), fun _ => a2 K hK⟩⟩
    · cases h
  | .block id c, l, H, x, l', H', hG, h => by
    simp only [evC] at h
    split at h
    · rename_i i l1 H1 hc
      cases h
      obtain ⟨a1, a2⟩ := evC_run hmix hT hX hih G c _ _ _ _ _ hG hc
      refine ⟨a1, fun K hK => a2 _ ?_⟩
      simp only [Cont.block]
      split
      · rename_i hi; rw [if_pos hi] at hK; exact hK
      · rename_i hi; rw [if_neg hi] at hK; exact hK
    · rename_i hne
      obtain ⟨a1, a2⟩ := evC_run hmix hT hX hih G c _ _ _ _ _ hG h
      refine ⟨a1, fun K hK => a2 _ ?_⟩
      cases x with
      | exit i => exact absurd h (hne _ _ _)
      | _ => exact hK
  | .loop c, l, H, x, l', H', hG, h => by
    simp only [evC] at h
    split at h
    · rename_i l1 H1 hc
      obtain ⟨a1, a2⟩ := evC_run hmix hT hX hih G c _ _ _ _ _ hG hc
      obtain ⟨b1, b2⟩ := hih _ _ _ _ _ _ _ (hG.keep a1) h
      exact ⟨a1.trans b1, fun K hK => loop_run (fun K' hK' => a2 K' hK') (b2 K hK)⟩
    · rename_i hne
      obtain ⟨a1, a2⟩ := evC_run hmix hT hX hih G c _ _ _ _ _ hG h
      refine ⟨a1, fun K hK => ⟨fun m e' H' => e' = envOf l ∧ H' = H, 0, ⟨rfl, rfl⟩, ?_⟩⟩
      rintro m e' H' ⟨rfl, rfl⟩
      refine a2 _ ?_
      cases x with
      | normal => exact absurd h (hne _ _)
      | _ => exact hK
  | .exit id, l, H, x, l', H', hG, h => by cases h; exact ⟨.refl _, fun K hK => hK⟩
  | .ret, l, H, x, l', H', hG, h => by cases h; exact ⟨.refl _, fun K hK => hK⟩
  | .rangef g ps a c, l, H, x, l', H', hG, h => by
    simp only [evC] at h
    split at h
    · rename_i f fi cp hfv
      split at h
      · rename_i v H1 hc
        have hlast : (H ++ [HObj.loop (Strp P a c) ps (envOf l) .ready none])[H.length]? = some (.loop (Strp P a c) ps (envOf l) .ready none) := by simp
        have hG1 : GOK P (⟨H.length, a, c, ps, l⟩ :: G) (H ++ [.loop (Strp P a c) ps (envOf l) .ready none]) := by
          intro g' hg'
          rcases List.mem_cons.1 hg' with rfl | hg'
          · exact ⟨_, _, hlast⟩
          · exact (hG.keep (.push _ _)) g' hg'
        obtain ⟨k1, cf, c1, c2, c3⟩ := evCall_run hT hih hG1 hc
        obtain ⟨st', pend', hk1⟩ := k1 _ _ _ _ _ _ hlast
        have fin : ∀ {x : Ex} {pd : Option Go.Code} {H2 : Heap}, Keep H1 H2 → (∀ K : Cont, K x (envOf l) H2 → afterRange H.length (Strp P a c) ps (envOf l) K H1) → Comes P (.rangef g ps a c) l H x l H2 := by
          intro x pd H2 hk hend
          refine ⟨((Keep.push _ _).trans k1).trans hk, fun K hK => ⟨⟨f, fi, cp, hfv⟩, ?_⟩⟩
          rw [hfv]
          refine .inr ?_
          show Call2 P f (fi ++ [.yld H.length] ++ cp) _ _
          exact call2_of_run hmix c1 c2 (c3 _ (hend K hK))
        split at h
        · rename_i S1 ps1 e1 st pend hk
          rw [hk] at hk1
          cases hk1
          split at h
          · cases h
          · rename_i hst
            split at h
            · cases h
              exact fin (pd := none) (.setl hk) fun K hK => ⟨_, _, hk, hst, hK⟩
            · cases h
              exact fin (pd := none) (.setl hk) fun K hK => ⟨_, _, hk, hst, hK⟩
            · cases h
              exact fin (pd := none) (.setl hk) fun K hK => ⟨_, _, hk, hst, hK⟩
            · cases h
        · cases h
      · cases h
    · cases h
  | .bad, l, H, x, l', H', hG, h => by cases h

theorem ev_run (hmix : P.follows .mixedOrders = true) (hT : CodesOK P T) (hX : ExtOK P X) : ∀ n, IhOK P (ev P T X n)
  | 0 => fun G c l H x l' H' _ h => by cases h
  | n + 1 => fun G => evC_run hmix hT hX (ev_run hmix hT hX n) G

theorem good_ev (hmix : P.follows .mixedOrders = true) (hT : CodesOK P T) (hX : ExtOK P X) (n : Nat) {f : FuncId} {ar : List V} {v r : V} {H' : Heap} (h : evCall T (ev P T X n) [] f ar [] = some (v, H')) (hg : Gives H' v r) : Good P f ar r := by
  obtain ⟨_, cf, h1, h2, h3⟩ := evCall_run hT (ev_run hmix hT hX n) gok_nil h
  exact good_of_run hmix h1 h2 (h3 _ hg)
end
end Fe
namespace Fe
open Go Go.RowKit

/-! ### slices.Clone, at any type of items -/
def cloneC (esz bytes : Nat) : CF := ⟨8, 1, [.mov (.t 2)], (.seq
  (.region false [
    oQ 2 (.mov (.c (.sl true [] 0)))])
  (.seq
   (.seq
    (.region false [
      oQ 3 (.mov (.t 0)),
      oQ 4 (.isnil false (.t 3))])
    (.cond (.t 4)
     (.seq
      (.region false [
        oQ 2 (.mov (.c (.sl true [] 0)))])
      .ret)
     .skip))
   (.seq
    (.region false [
      oQ 5 (.mksl [] 0 []),
      oQ 6 (.mov (.t 0)),
      oQ 7 (.append esz bytes (.t 5) (.t 6)),
      oQ 2 (.mov (.t 7))])
    .ret)))⟩
def cloneX (esz bytes : Nat) (ar : List V) (H : Heap) : Option (V × Heap) :=
  match ar with
  | [v] => match readSl H.length H esz v with
    | some (n, cs) => if n = 0 then some (.sl true [] 0, H) else if n * bytes ≤ 140737488355328 ∧ n ≤ 9223372036854775807 then some (.view H.length 0 0 n, H ++ [.cells 0 esz true cs]) else none
    | none => none
  | _ => none
theorem readSl_len {lim : Nat} {H : Heap} {esz : Nat} {v : V} {n : Nat} {cs : List V} (h : readSl lim H esz v = some (n, cs)) : cs.length = n * esz := by
  unfold readSl at h
  repeat' split at h
  all_goals first | (cases h; done) | skip
  · rename_i h1; cases h; exact h1
  · rename_i h1
    cases h
    rw [List.length_take, List.length_drop]
    omega
theorem clone_ok {P : Program} (hmix : P.follows .mixedOrders = true) {f : FuncId} {esz bytes : Nat} (hs : stripF P f = some (cloneC esz bytes)) {ar : List V} {H : Heap} {v : V} {H' : Heap} (h : cloneX esz bytes ar H = some (v, H')) :
    Keep H H' ∧ Call2 P f ar H fun r H₁ => r = v ∧ H₁ = H' := by
  unfold cloneX at h
  split at h
  · rename_i x
    split at h
    · rename_i n cs hr
      have hlen := readSl_len hr
      have hsrc : srcCells H esz x = some (n, cs) := by
        cases x <;> first | exact hr | (simp [readSl] at hr; done)
      split at h
      · rename_i hn
        cases h
        refine ⟨.refl _, call2_go hmix hs (Nat.le_of_ble_eq_true rfl) fun e he => ?_⟩
        have e0 : e 0 = x := he 0
        clear he
        have hc : cs = [] := List.length_eq_zero_iff.1 (by rw [hlen, hn, Nat.zero_mul])
        subst hn hc
        simp only [cloneC, oQ]
        cases x with
        | sl ex cs' n' =>
          have : n' = 0 ∧ cs' = [] := by
            simp only [readSl] at hr
            split at hr
            · cases hr; exact ⟨rfl, rfl⟩
            · cases hr
          obtain ⟨rfl, rfl⟩ := this
          simp -implicitDefEqProofs (disch := omega) only [↓ZD,ZP,cnd_t,cnd_f,↓reduceIte,Env.put,stepO,lenV,binV,binInt,unV,loadV,sliceV,boundOf,convV,slstrV,if_pos,if_neg,Int.reduceToNat,Nat.reducePow,V.cells,V.isCell,V.boxable,Nat.reduceEqDiff,reduceCtorEq,reduceIte,ite_self,enterEnv,e0,appendV,hsrc,fillL,evParts]
        | view k g off n' =>
          simp -implicitDefEqProofs (disch := omega) only [↓ZD,ZP,cnd_t,cnd_f,↓reduceIte,Env.put,stepO,lenV,binV,binInt,unV,loadV,sliceV,boundOf,convV,slstrV,if_pos,if_neg,Int.reduceToNat,Nat.reducePow,V.cells,V.isCell,V.boxable,Nat.reduceEqDiff,reduceCtorEq,reduceIte,ite_self,enterEnv,e0,appendV,hsrc,fillL,evParts]
        | _ => simp [readSl] at hr
      · rename_i hn
        split at h
        · rename_i hb
          cases h
          refine ⟨.push _ _, call2_go hmix hs (Nat.le_of_ble_eq_true rfl) fun e he => ?_⟩
          have e0 : e 0 = x := he 0
          clear he
          have hnz : ¬ n = 0 := hn
          have hb' : (0 + n) * bytes ≤ 140737488355328 ∧ 0 + n ≤ 9223372036854775807 := by rw [Nat.zero_add]; exact hb
          simp only [cloneC, oQ]
          cases x with
          | sl ex cs' n' =>
            have : n' = n ∧ cs' = cs := by
              simp only [readSl] at hr
              split at hr
              · cases hr; exact ⟨rfl, rfl⟩
              · cases hr
            obtain ⟨rfl, rfl⟩ := this
            have hz : (cs'.isEmpty = true ∧ n' = 0) = False := by simp [hnz]
            simp -implicitDefEqProofs (disch := omega) only [↓ZD,ZP,cnd_t,cnd_f,↓reduceIte,Env.put,stepO,lenV,binV,binInt,unV,loadV,sliceV,boundOf,convV,slstrV,if_pos,if_neg,Int.reduceToNat,Nat.reducePow,V.cells,V.isCell,V.boxable,Nat.reduceEqDiff,reduceCtorEq,reduceIte,ite_self,enterEnv,e0,appendV,hsrc,fillL,evParts,hz,hlen,hnz,hb.1,hb.2]
          | view k g off n' =>
            simp -implicitDefEqProofs (disch := omega) only [↓ZD,ZP,cnd_t,cnd_f,↓reduceIte,Env.put,stepO,lenV,binV,binInt,unV,loadV,sliceV,boundOf,convV,slstrV,if_pos,if_neg,Int.reduceToNat,Nat.reducePow,V.cells,V.isCell,V.boxable,Nat.reduceEqDiff,reduceCtorEq,reduceIte,ite_self,enterEnv,e0,appendV,hsrc,fillL,evParts,hlen,hnz,hb.1,hb.2]
          | _ => simp [readSl] at hr
        · cases h
    · cases h
  · cases h
end Fe
namespace Fe
open Go Go.RowKit

/-! ### slices.Clone of numbers, whose literals are memory that may be written -/
/-! ### What is remembered of calls -/
mutual
/-- Is a value the other one, at least? -/
def leV : V → V → Bool
  | .bool a, .bool b => a == b
  | .int k a, .int k' b => decide (k = k') && (a == b)
  | .str a, .str b => a == b
  | .nilp, .nilp => true
  | .nilf, .nilf => true
  | .mnil, .mnil => true
  | .rptr cs o, .rptr cs' o' => leL cs cs' && (o == o')
  | .sl ex cs n, .sl ex' cs' n' => (!ex' || ex) && leL cs cs' && (n == n')
  | .agg cs, .agg cs' => leL cs cs'
  | .tup cs, .tup cs' => leL cs cs'
  | .fn f x y, .fn f' x' y' => (f == f') && leL x x' && leL y y'
  | _, _ => false
def leL : List V → List V → Bool
  | [], [] => true
  | x :: xs, y :: ys => leV x y && leL xs ys
  | _, _ => false
end
theorem leL_len : ∀ {l m : List V}, leL l m = true → l.length = m.length
  | [], [], _ => rfl
  | x :: xs, y :: ys, h => by
    simp only [leL,Bool.and_eq_true] at h
    simp [leL_len h.2]
  | [], _ :: _, h => by simp [leL] at h
  | _ :: _, [], h => by simp [leL] at h
theorem leL_get : ∀ {l m : List V}, leL l m = true → ∀ i (h : i < l.length) (h' : i < m.length), leV l[i] m[i] = true
  | x :: xs, y :: ys, h, i, h1, h2 => by
    simp only [leL,Bool.and_eq_true] at h
    cases i with
    | zero => exact h.1
    | succ i => exact leL_get h.2 i (by simpa using h1) (by simpa using h2)
  | [], _, _, _, h1, _ => absurd h1 (Nat.not_lt_zero _)
  | _ :: _, [], _, _, _, h2 => absurd h2 (Nat.not_lt_zero _)
section
variable {ρ : Nat → Nat} {H : Heap} {Bad : Nat → Prop} {w : World}
theorem Rel.le {v : V} {c : Value} (h : Rel ρ H Bad w v c) : ∀ u, leV v u = true → Rel ρ H Bad w u c := by
  induction h with
  | bool b => intro u hu; cases u <;> simp [leV] at hu; subst hu; exact .bool _
  | int k n => intro u hu; cases u <;> simp [leV] at hu; obtain ⟨rfl, rfl⟩ := hu; exact .int _ _
  | str s => intro u hu; cases u <;> simp [leV] at hu; subst hu; exact .str _
  | nilp => intro u hu; cases u <;> simp [leV] at hu; exact .nilp
  | cell k g off B h1 h2 h3 => intro u hu; cases u <;> simp [leV] at hu
  | rptr cs off B o f h1 h2 h3 ih =>
    intro u hu
    cases u <;> simp [leV] at hu
    rename_i cs' o'
    obtain ⟨hl, rfl⟩ := hu
    have hlen := leL_len hl
    exact .rptr cs' off B o f (fun i hi => h1 i (by omega)) (fun i hi => ih i (by omega) _ (leL_get hl i (by omega) hi)) (fun hne => h3 (by
      rintro rfl; exact hne (List.length_eq_zero_iff.1 hlen.symm)))
  | sl ex cs n B o cap f h1 h2 h3 h4 h5 ih =>
    intro u hu
    cases u <;> simp [leV] at hu
    rename_i ex' cs' n'
    obtain ⟨⟨hex, hl⟩, rfl⟩ := hu
    have hlen := leL_len hl
    exact .sl ex' cs' n B o cap f (fun i hi => h1 i (by omega)) (fun i hi => ih i (by omega) _ (leL_get hl i (by omega) hi)) (fun hne => h3 (by
      rintro rfl; exact hne (List.length_eq_zero_iff.1 hlen.symm))) h4 (fun he => h5 (by rcases hex with h | h
                                                                                         · rw [he] at h; cases h
                                                                                         · exact h))
  | slnil ex =>
    intro u hu
    cases u <;> simp [leV] at hu
    rename_i ex' cs' n'
    obtain ⟨⟨hex, hl⟩, rfl⟩ := hu
    have hlen := leL_len hl
    obtain rfl := List.length_eq_zero_iff.1 hlen.symm
    exact .slnil _
  | agg cs arr h1 h2 ih =>
    intro u hu
    cases u <;> simp [leV] at hu
    have hlen := leL_len hu
    exact .agg _ arr (by omega) (fun i hi => ih i (by omega) _ (leL_get hu i (by omega) hi))
  | tup cs arr h1 h2 ih =>
    intro u hu
    cases u <;> simp [leV] at hu
    have hlen := leL_len hu
    exact .tup _ arr (by omega) (fun i hi => ih i (by omega) _ (leL_get hu i (by omega) hi))
  | view k g off n B cap h1 h2 h3 h4 => intro u hu; cases u <;> simp [leV] at hu
  | fn f fs cs fa ca h1 h2 h3 h4 ih1 ih2 =>
    intro u hu
    cases u <;> simp [leV] at hu
    obtain ⟨⟨rfl, ha⟩, hb⟩ := hu
    have la := leL_len ha
    have lb := leL_len hb
    exact .fn f _ _ fa ca (by omega) (by omega) (fun i hi => ih1 i (by omega) _ (leL_get ha i (by omega) hi)) (fun i hi => ih2 i (by omega) _ (leL_get hb i (by omega) hi))
  | nilf => intro u hu; cases u <;> simp [leV] at hu; exact .nilf
  | und c => intro u hu; cases u <;> simp [leV] at hu
  | anyb b => intro u hu; cases u <;> simp [leV] at hu
  | yld k B h1 h2 => intro u hu; cases u <;> simp [leV] at hu
  | mp k B h1 h2 => intro u hu; cases u <;> simp [leV] at hu
  | mnil => intro u hu; cases u <;> simp [leV] at hu; exact .mnil
end
theorem good_le {P : Program} {f : FuncId} {us vs : List V} {r : V} (h : Good P f us r) (hl : leL vs us = true) : Good P f vs r := by
  have hlen := leL_len hl
  refine ⟨h.1, fun Bad w ca h1 h2 h3 h4 => h.2 Bad w ca h1 h2 (by omega) fun i hi => ?_⟩
  exact (h4 i (by omega)).le _ (leL_get hl i (by omega) hi)

/-- A reckoned call's result, for the caller. -/
def outR (p : Option (V × Heap)) : Option V := match p with
  | some (v, H) => match lendAll 6 H [v] with
    | some (_, [r]) => some r.weak
    | _ => none
  | none => none
theorem good_evr {P : Program} {T : Codes} {X : Ext} (hmix : P.follows .mixedOrders = true) (hT : CodesOK P T) (hX : ExtOK P X) (n : Nat) {f : FuncId} {ar : List V} {r : V} (h : outR (evCall T (ev P T X n) [] f ar []) = some r) : Good P f ar r := by
  unfold outR at h
  split at h
  · rename_i v H hv
    split at h
    · rename_i k r' hl
      cases h
      obtain ⟨hl1, hl2⟩ := lendAll_eq hl
      refine good_ev hmix hT hX n hv ?_
      exact .inl ⟨k, r', by simpa [roL] using hl2, hl1, rfl⟩
    · cases h
  · cases h
end Fe
