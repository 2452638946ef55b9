/-
  Contract: a line's tokens by the reference; contract: the law LexTokens. No condition.
-/
import Derived.Test.YtjgjfabmakkooaaGreatDoorFhJ
set_option linter.unusedSimpArgs false
set_option linter.unusedVariables false
open Go Go.Proofs
namespace Fe
def b408 : C :=
 (.seq
 (.region false [
 oQ 2 (.mov (.c (.sl true [] 0))),
 oQ 3 (.mov (.c (.int .i64 0))),
 oQ 4 (.mov (.c (.int .i64 0)))])
 (.seq
 (.seq
 (.region false [
 oQ 12 (.mov (.t 0)),
 oQ 13 (.len true (.t 12)),
 oQ 14 (.bin 0 .gtr (.t 13) (.c (.int .i64 1024)))])
 (.cond (.t 14)
 (.seq
 (.region false [
 oQ 2 (.mov (.c (.sl true [] 0))),
 oQ 3 (.mov (.c (.int .i64 25))),
 oQ 4 (.mov (.c (.int .i64 0)))])
 .ret)
 .skip))
 (.seq
 (.region false [
 oQ 16 (.mov (.t 0)),
 ⟨some 17, .call false (.c (.fn 20 [] [])) [.t 16], none⟩,
 oQ 15 (.mov (.t 17)),
 oQ 18 (.extract (.t 15) 0),
 oQ 19 (.extract (.t 15) 1),
 oQ 20 (.extract (.t 15) 2),
 oQ 5 (.mov (.t 18)),
 oQ 6 (.mov (.t 19)),
 oQ 7 (.mov (.t 20))])
 (.seq
 (.seq
 (.region false [
 oQ 21 (.mov (.t 6)),
 oQ 22 (.bin 0 .neq (.t 21) (.c (.int .i64 0)))])
 (.cond (.t 22)
 (.seq
 (.region false [
 oQ 23 (.mov (.t 6)),
 oQ 24 (.mov (.t 7)),
 oQ 2 (.mov (.c (.sl true [] 0))),
 oQ 3 (.mov (.t 23)),
 oQ 4 (.mov (.t 24))])
 .ret)
 .skip))
 (.seq
 (.region false [
 oQ 8 (.mov (.c (.sl true [] 0)))])
 (.seq
 (.block 0
 (.loop
 (.seq
 (.seq
 (.region false [
 oQ 25 (.mov (.t 7)),
 oQ 26 (.mov (.t 5)),
 oQ 27 (.len false (.t 26)),
 oQ 28 (.bin 0 .lss (.t 25) (.t 27)),
 oQ 29 (.mov (.t 28)),
 ⟨some 30, .op (.mov (.t 5)), some (29, true)⟩,
 ⟨some 31, .op (.mov (.t 7)), some (29, true)⟩,
 ⟨some 32, .op (.iaddr 1 (.t 30) (.t 31)), some (29, true)⟩,
 ⟨some 33, .op (.load false 1 (.t 32)), some (29, true)⟩,
 ⟨some 34, .op (.bin 0 .neq (.t 33) (.c (.int .i32 9053))), some (29, true)⟩,
 oQ 35 (.pick (.t 29) (.t 34) (.c (.bool false)))])
 (.cond (.t 35)
 .skip
 (.exit 0)))
 (.block 1
 (.seq
 (.seq
 (.region false [
 oQ 36 (.mov (.t 5)),
 oQ 37 (.mov (.t 7)),
 oQ 38 (.iaddr 1 (.t 36) (.t 37)),
 oQ 39 (.load false 1 (.t 38)),
 oQ 40 (.bin 0 .eql (.t 39) (.c (.int .i32 32))),
 oQ 41 (.mov (.t 40)),
 ⟨some 42, .op (.mov (.t 5)), some (41, false)⟩,
 ⟨some 43, .op (.mov (.t 7)), some (41, false)⟩,
 ⟨some 44, .op (.iaddr 1 (.t 42) (.t 43)), some (41, false)⟩,
 ⟨some 45, .op (.load false 1 (.t 44)), some (41, false)⟩,
 ⟨some 46, .op (.bin 0 .eql (.t 45) (.c (.int .i32 9))), some (41, false)⟩,
 oQ 47 (.pick (.t 41) (.c (.bool true)) (.t 46))])
 (.cond (.t 47)
 (.seq
 (.region false [
 oQ 48 (.mov (.t 7)),
 oQ 49 (.bin 0 .add (.t 48) (.c (.int .i64 1))),
 oQ 7 (.mov (.t 49))])
 (.exit 1))
 .skip))
 (.seq
 (.region false [
 oQ 51 (.mov (.t 5)),
 oQ 52 (.mov (.t 7)),
 ⟨some 53, .call false (.c (.fn 21 [] [])) [.t 51, .t 52], none⟩,
 oQ 50 (.mov (.t 53)),
 oQ 54 (.extract (.t 50) 0),
 oQ 55 (.extract (.t 50) 1),
 oQ 56 (.extract (.t 50) 2),
 oQ 9 (.box (.c (.agg [.int .i64 0, .str [], .int .i64 0, .sl true [] 0, .sl true [] 0]))),
 ⟨none, .op (.store 5 (.t 9) (.t 54)), none⟩,
 oQ 10 (.mov (.t 55)),
 oQ 11 (.mov (.t 56))])
 (.seq
 (.seq
 (.region false [
 oQ 57 (.mov (.t 11)),
 oQ 58 (.bin 0 .neq (.t 57) (.c (.int .i64 0)))])
 (.cond (.t 58)
 (.seq
 (.region false [
 oQ 59 (.mov (.t 11)),
 oQ 60 (.mov (.t 7)),
 oQ 2 (.mov (.c (.sl true [] 0))),
 oQ 3 (.mov (.t 59)),
 oQ 4 (.mov (.t 60))])
 .ret)
 .skip))
 (.seq
 (.region false [
 oQ 61 (.mov (.t 8)),
 oQ 62 (.load true 5 (.t 9)),
 oQ 63 (.mksl [.int .i64 0, .str [], .int .i64 0, .sl true [] 0, .sl true [] 0] 1 [(0, (5, .t 62))]),
 oQ 64 (.append 5 80 (.t 61) (.t 63)),
 oQ 8 (.mov (.t 64))])
 (.region false [
 oQ 65 (.mov (.t 10)),
 oQ 7 (.mov (.t 65))])))))))))
 (.seq
 (.region false [
 oQ 66 (.mov (.t 8)),
 oQ 67 (.mov (.t 7)),
 oQ 68 (.build [.int .i64 0, .str [], .int .i64 0, .sl true [] 0, .sl true [] 0] [(2, (1, .t 67))]),
 oQ 69 (.mksl [.int .i64 0, .str [], .int .i64 0, .sl true [] 0, .sl true [] 0] 1 [(0, (5, .t 68))]),
 oQ 70 (.append 5 80 (.t 66) (.t 69)),
 oQ 2 (.mov (.t 70)),
 oQ 3 (.mov (.c (.int .i64 0))),
 oQ 4 (.mov (.c (.int .i64 0)))])
 .ret)))))))
def c408 : CF := ⟨71, 1, [.mov (.t 2), .mov (.t 3), .mov (.t 4)], b408⟩
theorem s408 : stripF Go.Proofs.Tryz.prog 8 = some c408 := by kernel_rfl

/-! ### A line's tokens, by both -/
structure Tk where
  kind : Nat
  text : List UInt8
  pos : Nat
  a1 : V
  a2 : V
  b1 : V
  b2 : V
def Tk.L (t : Tk) : List V := tokC t.kind t.text t.pos t.a1 t.a2
def Tk.R (t : Tk) : List V := [.int .i64 (t.kind : Nat), .str t.text, .int .i64 (t.pos : Nat), t.b1, t.b2]
def endT (i : Nat) : Tk := ⟨0, [], i, nilV, nilV, nilV, nilV⟩

def lexP : Nat → Nat → List Nat → Except (Nat × Nat) (List Tk)
  | 0, _, _ => .ok []
  | n + 1, i, l =>
    match l.dropWhile blankC with
    | [] => .ok [endT (i + (l.takeWhile blankC).length)]
    | c :: r => if c = 9053 then .ok [endT (i + (l.takeWhile blankC).length)] else match tokenS (c :: r) with
      | .err e => .error (e, i + (l.takeWhile blankC).length)
      | .ok kind k a1 a2 => match lexP n (i + (l.takeWhile blankC).length + k) ((c :: r).drop k) with
        | .error x => .error x
        | .ok ts => .ok (⟨kind, encs ((c :: r).take k), i + (l.takeWhile blankC).length, a1, a2, (arrS (c :: r)).1, (arrS (c :: r)).2⟩ :: ts)

theorem lexL_P : ∀ (n i : Nat) (l : List Nat), lexL n i l = match lexP n i l with
    | .error x => .error x
    | .ok ts => .ok (ts.map Tk.L)
  | 0, i, l => rfl
  | n + 1, i, l => by
    rw [lexL, lexP]
    cases hdw : l.dropWhile blankC with
    | nil => rfl
    | cons c r =>
      simp only
      by_cases hc : c = 9053
      · rw [if_pos hc, if_pos hc]; rfl
      · rw [if_neg hc, if_neg hc]
        cases htok : tokenS (c :: r) with
        | err e => rfl
        | ok kind k a1 a2 =>
          simp only
          rw [lexL_P n]
          cases lexP n (i + (l.takeWhile blankC).length + k) ((c :: r).drop k) with
          | error x => rfl
          | ok ts => rfl

theorem dw_len {p : Nat → Bool} (l : List Nat) : (l.dropWhile p).length ≤ l.length := by
  have : (l.takeWhile p ++ l.dropWhile p).length = l.length := by rw [List.takeWhile_append_dropWhile]
  rw [List.length_append] at this
  omega

theorem lexP_fuel : ∀ (n m i : Nat) (l : List Nat), l.length < n → l.length < m → lexP n i l = lexP m i l
  | 0, _, i, l, h, _ => by omega
  | _ + 1, 0, i, l, _, h => by omega
  | n + 1, m + 1, i, l, h1, h2 => by
    rw [lexP, lexP]
    have hdl := dw_len (p := blankC) l
    cases hdw : l.dropWhile blankC with
    | nil => rfl
    | cons c r =>
      rw [hdw] at hdl
      simp only
      by_cases hc : c = 9053
      · rw [if_pos hc, if_pos hc]
      · rw [if_neg hc, if_neg hc]
        cases htok : tokenS (c :: r) with
        | err e => rfl
        | ok kind k a1 a2 =>
          have hk := tokenS_n htok
          have hd : ((c :: r).drop k).length = (c :: r).length - k := List.length_drop
          simp only
          rw [lexP_fuel n m _ _ (by omega) (by omega)]

def lexT (i : Nat) (l : List Nat) : Except (Nat × Nat) (List Tk) := lexP (l.length + 1) i l
theorem lexT_nil (i : Nat) : lexT i [] = .ok [endT i] := rfl
theorem lexT_com (i : Nat) (r : List Nat) : lexT i (9053 :: r) = .ok [endT i] := by
  rw [lexT, List.length_cons, lexP]; rfl
theorem lexT_blank {c : Nat} (h : blankC c = true) (i : Nat) (l : List Nat) : lexT i (c :: l) = lexT (i + 1) l := by
  rw [lexT, lexT, List.length_cons, lexP_fuel (l.length + 1) (l.length + 1 + 1) (i + 1) l (by omega) (by omega), lexP, lexP]
  simp only [List.dropWhile_cons,List.takeWhile_cons,h,if_true,List.length_cons]
  rw [show i + ((l.takeWhile blankC).length + 1) = i + 1 + (l.takeWhile blankC).length by omega]
theorem lexT_tok {c : Nat} (h : blankC c = false) (hc : c ≠ 9053) (i : Nat) (r : List Nat) : lexT i (c :: r) = match tokenS (c :: r) with
    | .err e => .error (e, i)
    | .ok kind k a1 a2 => match lexT (i + k) ((c :: r).drop k) with
      | .error x => .error x
      | .ok ts => .ok (⟨kind, encs ((c :: r).take k), i, a1, a2, (arrS (c :: r)).1, (arrS (c :: r)).2⟩ :: ts) := by
  rw [lexT, List.length_cons, lexP]
  simp only [List.dropWhile_cons,List.takeWhile_cons,h,Bool.false_eq_true,if_false,List.length_nil,Nat.add_zero]
  rw [if_neg hc]
  cases htok : tokenS (c :: r) with
  | err e => rfl
  | ok kind k a1 a2 =>
    have hk := tokenS_n htok
    simp only
    have hd : ((c :: r).drop k).length = (c :: r).length - k := List.length_drop
    rw [lexT, lexP_fuel (r.length + 1) (((c :: r).drop k).length + 1) _ _ (by rw [hd, List.length_cons]; omega) (by omega)]

theorem arrS_sl (l : List Nat) : ∃ e1 l1 n1 e2 l2 n2, arrS l = (.sl e1 l1 n1, .sl e2 l2 n2) ∧ roL l1 = true ∧ roL l2 = true := by
  cases l with
  | nil => exact ⟨_, _, _, _, _, _, rfl, rfl, rfl⟩
  | cons c r =>
    rw [arrS]
    split
    · obtain ⟨b, x, y, m, h⟩ := ratP_agg (encs (c :: r.takeWhile numC))
      rw [h]
      exact ⟨_, _, _, _, _, _, rfl, rfl, by simp [itemRV, rv, V.ro, roL, nf_ro, nilV]⟩
    split
    · cases textS r with
      | none => exact ⟨_, _, _, _, _, _, rfl, rfl, rfl⟩
      | some p =>
        simp only
        split
        · exact ⟨_, _, _, _, _, _, rfl, rfl, rfl⟩
        · refine ⟨_, _, _, _, _, _, rfl, rfl, ?_⟩
          split
          · rfl
          · exact itemsR_ro _
    · exact ⟨_, _, _, _, _, _, rfl, rfl, rfl⟩

/-- The reference's tokens, in memory. -/
def TkAt (H : Heap) (v : V) (O : List Tk) : Prop := (O = [] ∧ v = .sl true [] 0) ∨ ∃ b g, v = .view b g 0 O.length ∧ b < H.length ∧ H[b]? = some (.cells g 5 true (O.map Tk.R).flatten)
theorem tkR_len (O : List Tk) : (O.map Tk.R).flatten.length = O.length * 5 := by
  rw [flat_len _ (fun t ht => by obtain ⟨c, _, rfl⟩ := List.mem_map.1 ht; rfl), List.length_map]
theorem TkAt.push {H : Heap} {v : V} {O : List Tk} (h : TkAt H v O) (x : HObj) : TkAt (H ++ [x]) v O := by
  rcases h with h | ⟨b, g, h1, h2, h3⟩
  · exact .inl h
  · exact .inr ⟨b, g, h1, by simp; omega, by rw [get_push h2]; exact h3⟩
theorem append_tk {H : Heap} {v : V} {O : List Tk} (h : TkAt H v O) (t : Tk) (ht : (Tk.R t).all V.isCell = true) (hl : O.length ≤ 100000) : ∃ v' H', appendV 5 80 H v (.sl true (Tk.R t) 1) = some (v', H') ∧ TkAt H' v' (O ++ [t]) := by
  have hi : (Tk.R t).length = 5 := rfl
  rcases h with ⟨rfl, rfl⟩ | ⟨b, g, rfl, hb, hHb⟩
  · exact ⟨.view H.length 0 0 1, H ++ [.cells 0 5 true (Tk.R t)], by simp [appendV, srcCells, readSl, hi], .inr ⟨H.length, 0, rfl, by simp, by simp⟩⟩
  · have hil := tkR_len O
    have q1 : O.length * 5 ≤ (O.map Tk.R).flatten.length := by omega
    have q2 : (O.length + 1) * 80 ≤ 140737488355328 := by omega
    have q3 : O.length + 1 ≤ 9223372036854775807 := by omega
    have q4 : (O.map Tk.R).flatten.take (O.length * 5) = (O.map Tk.R).flatten := by rw [← hil, List.take_length]
    refine ⟨.view b (g + 1) 0 (O.length + 1), H.set b (.cells (g + 1) 5 true ((O.map Tk.R).flatten ++ Tk.R t)), ?_, .inr ⟨b, g + 1, by simp, by simpa using hb, by simp [hb]⟩⟩
    generalize (O.map Tk.R).flatten = F at *
    generalize Tk.R t = T at *
    simp [appendV, srcCells, readSl, hHb, hi, ht, q1, q2, q3, q4]
theorem gives_tk {H : Heap} {v : V} {O : List Tk} (h : TkAt H v O) (hro : roL (O.map Tk.R).flatten = true) : Gives H (.tup [v, .int .i64 0, .int .i64 0]) (.tup [.sl false (O.map Tk.R).flatten O.length, .int .i64 0, .int .i64 0]) := by
  rcases h with ⟨rfl, rfl⟩ | ⟨b, g, rfl, hb, hHb⟩
  · exact gives_eq rfl rfl
  · have hil := tkR_len O
    have q4 : (O.map Tk.R).flatten.take (O.length * 5) = (O.map Tk.R).flatten := by rw [← hil, List.take_length]
    generalize (O.map Tk.R).flatten = F at *
    refine gives_lend 1 (v' := .tup [.sl false F O.length, .int .i64 0, .int .i64 0]) ?_ (by simp [V.ro, roL, hro]) rfl
    simp only [lend1,borL,bor,hHb,if_true,List.drop_zero,q4]

/-- What the reference hands back. -/
def allQ (s : List UInt8) : V :=
  if 1024 < s.length then .tup [.sl false [] 0, .int .i64 25, .int .i64 0]
  else match bad s with
    | some i => .tup [.sl false [] 0, .int .i64 26, .int .i64 (i : Nat)]
    | none => match lexT 0 (rn s) with
      | .error (e, j) => .tup [.sl false [] 0, .int .i64 (e : Nat), .int .i64 (j : Nat)]
      | .ok ts => .tup [.sl false (ts.map Tk.R).flatten ts.length, .int .i64 0, .int .i64 0]
def addT (O : List Tk) : Except (Nat × Nat) (List Tk) → Except (Nat × Nat) (List Tk)
  | .error x => .error x
  | .ok ts => .ok (O ++ ts)

theorem lexT_err {n i : Nat} {l : List Nat} {e j : Nat} (h : lexP n i l = .error (e, j)) : e ≠ 0 := by
  have := lexL_P n i l
  rw [h] at this
  exact lexL_err _ _ _ _ _ this

set_option maxHeartbeats 4000000 in
theorem good408 (s : List UInt8) : Good Go.Proofs.Tryz.prog 8 [.str s] (allQ s) := by
  refine good_go mix s408 (Nat.le_of_ble_eq_true rfl) fun e he => ?_
  have e0 : e 0 = .str s := he 0
  clear he
  simp only [c408,b408, oQ]
  rw [allQ]
  by_cases hlong : 1024 < s.length
  · rw [if_pos hlong]
    simp -implicitDefEqProofs (disch := omega) only [↓ZD,ZP,cnd_t,cnd_f,↓reduceIte,Env.put,stepO,lenV,binV,binInt,unV,loadV,sliceV,boundOf,convV,slstrV,if_pos,if_neg,Int.reduceToNat,Nat.reducePow,V.cells,V.isCell,V.boxable,Nat.reduceEqDiff,reduceCtorEq,reduceIte,ite_self,enterEnv,e0]
    exact gives_eq rfl rfl
  rw [if_neg hlong]
  have hg := good207 s (by omega)
  have hrl := rn_len s
  rw [runesR] at hg
  cases hbad : bad s with
  | some i =>
    rw [hbad] at hg
    simp -implicitDefEqProofs (disch := omega) only [↓ZD,ZP,cnd_t,cnd_f,↓reduceIte,Env.put,stepO,lenV,binV,binInt,unV,loadV,sliceV,boundOf,convV,slstrV,if_pos,if_neg,Int.reduceToNat,Nat.reducePow,V.cells,V.isCell,V.boxable,Nat.reduceEqDiff,reduceCtorEq,reduceIte,ite_self,enterEnv,e0]
    refine calP_ro rfl hg rfl ?_
    simp -implicitDefEqProofs (disch := omega) only [↓ZD,ZP,cnd_t,cnd_f,↓reduceIte,Env.put,stepO,lenV,binV,binInt,unV,loadV,sliceV,boundOf,convV,slstrV,if_pos,if_neg,Int.reduceToNat,Nat.reducePow,V.cells,V.isCell,V.boxable,Nat.reduceEqDiff,reduceCtorEq,reduceIte,ite_self,enterEnv,e0,bne_self_eq_false]
    exact gives_eq rfl rfl
  | none =>
    rw [hbad] at hg
    simp -implicitDefEqProofs (disch := omega) only [↓ZD,ZP,cnd_t,cnd_f,↓reduceIte,Env.put,stepO,lenV,binV,binInt,unV,loadV,sliceV,boundOf,convV,slstrV,if_pos,if_neg,Int.reduceToNat,Nat.reducePow,V.cells,V.isCell,V.boxable,Nat.reduceEqDiff,reduceCtorEq,reduceIte,ite_self,enterEnv,e0]
    refine calP_ro rfl hg (by simp [V.ro, roL, rsl, rl_ro]) ?_
    have hch := rn_ok s.length s
    have hrs : runesL s.length s = rn s := rfl
    rw [hrs] at hch
    generalize rn s = rs at *
    simp -implicitDefEqProofs (disch := omega) only [↓ZD,ZP,cnd_t,cnd_f,↓reduceIte,Env.put,stepO,lenV,binV,binInt,unV,loadV,sliceV,boundOf,convV,slstrV,if_pos,if_neg,Int.reduceToNat,Nat.reducePow,V.cells,V.isCell,V.boxable,Nat.reduceEqDiff,reduceCtorEq,reduceIte,ite_self,enterEnv,e0,bne_self_eq_false,rsl]
    refine go_loop (fun m e H => ∃ (i : Nat) (O : List Tk) (v : V), i ≤ rs.length ∧ m = rs.length - i ∧ TkAt H v O ∧ O.length ≤ i ∧ roL (O.map Tk.R).flatten = true ∧ lexT 0 rs = addT O (lexT i (rs.drop i)) ∧ e 5 = .sl false (rl rs) rs.length ∧ e 7 = .int .i64 (i : Nat) ∧ e 8 = v) rs.length
      ⟨0, [], _, Nat.zero_le _, rfl, .inl ⟨rfl, rfl⟩, Nat.le_refl _, rfl, ?_, ?_, ?_, ?_⟩ ?_
    · rw [List.drop_zero]; cases lexT 0 rs <;> rfl
    · simp [Env.set]
    · simp [Env.set]
    · simp [Env.set]
    clear e0
    rintro m e H ⟨i, O, v, hi, rfl, hO, hOl, hro, hlex, e5, e7, e8⟩
    have hend : ∃ (v' : V) (H' : Heap), appendV 5 80 H v (.sl true [.int .i64 0, .str [], .int .i64 (i : Nat), .sl true [] 0, .sl true [] 0] 1) = some (v', H') ∧ TkAt H' v' (O ++ [endT i]) := append_tk hO (endT i) rfl (by omega)
    have hro2 : roL ((O ++ [endT i]).map Tk.R).flatten = true := by
      rw [List.map_append, List.flatten_append, roL_app, hro]; rfl
    rcases Nat.lt_or_ge i rs.length with hlt | hge
    · have hdc := List.drop_eq_getElem_cons hlt
      have hat : (rl rs)[i]? = some (.int .i32 (rs[i] : Nat)) := rl_get (List.getElem?_eq_getElem hlt)
      rw [hdc] at hlex
      have hnext := good421 rs i rs[i] (rs.drop (i + 1)) hdc (by omega) hch
      generalize rs[i] = c at *
      by_cases hcom : c = 9053
      · subst hcom
        rw [lexT_com] at hlex
        rw [hlex]
        obtain ⟨v', H', happ, hO'⟩ := hend
        simp -implicitDefEqProofs (disch := omega) only [↓ZD,ZP,cnd_t,cnd_f,↓reduceIte,Env.put,stepO,lenV,binV,binInt,unV,loadV,sliceV,boundOf,convV,slstrV,if_pos,if_neg,Int.reduceToNat,Nat.reducePow,V.cells,V.isCell,V.boxable,Nat.reduceEqDiff,reduceCtorEq,reduceIte,ite_self,enterEnv,e5,e7,e8,hat,fillL,evParts,splice,List.take_zero,List.take_succ_cons,List.drop_succ_cons,List.drop_zero,List.drop_nil,happ]
        exact gives_tk hO' hro2
      · cases hbl : blankC c with
        | true =>
          rw [lexT_blank hbl] at hlex
          have hc2 : c = 32 ∨ (c ≠ 32 ∧ c = 9) := by simp [blankC] at hbl; omega
          rcases hc2 with hc2 | ⟨hc2, hc3⟩
          · simp -implicitDefEqProofs (disch := omega) only [↓ZD,ZP,cnd_t,cnd_f,↓reduceIte,Env.put,stepO,lenV,binV,binInt,unV,loadV,sliceV,boundOf,convV,slstrV,if_pos,if_neg,Int.reduceToNat,Nat.reducePow,V.cells,V.isCell,V.boxable,Nat.reduceEqDiff,reduceCtorEq,reduceIte,ite_self,enterEnv,e5,e7,e8,hat,hc2]
            exact ⟨_, by omega, i + 1, O, v, by omega, rfl, hO, by omega, hro, hlex, rfl, rfl⟩
          · simp -implicitDefEqProofs (disch := omega) only [↓ZD,ZP,cnd_t,cnd_f,↓reduceIte,Env.put,stepO,lenV,binV,binInt,unV,loadV,sliceV,boundOf,convV,slstrV,if_pos,if_neg,Int.reduceToNat,Nat.reducePow,V.cells,V.isCell,V.boxable,Nat.reduceEqDiff,reduceCtorEq,reduceIte,ite_self,enterEnv,e5,e7,e8,hat,hc3]
            exact ⟨_, by omega, i + 1, O, v, by omega, rfl, hO, by omega, hro, hlex, rfl, rfl⟩
        | false =>
          have hc2 : c ≠ 32 ∧ c ≠ 9 := by simp [blankC] at hbl; omega
          obtain ⟨hc2, hc3⟩ := hc2
          rw [lexT_tok hbl hcom] at hlex
          cases htok : tokenS (c :: rs.drop (i + 1)) with
          | err er =>
            rw [htok] at hlex
            rw [nextR_err htok] at hnext
            simp only [addT] at hlex
            rw [hlex]
            have her : er ≠ 0 := by
              have : lexP (rs.length + 1) 0 rs = .error (er, i) := hlex
              exact lexT_err this
            simp -implicitDefEqProofs (disch := omega) only [↓ZD,ZP,cnd_t,cnd_f,↓reduceIte,Env.put,stepO,lenV,binV,binInt,unV,loadV,sliceV,boundOf,convV,slstrV,if_pos,if_neg,Int.reduceToNat,Nat.reducePow,V.cells,V.isCell,V.boxable,Nat.reduceEqDiff,reduceCtorEq,reduceIte,ite_self,enterEnv,e5,e7,e8,hat]
            refine calP_ro (by simp [roL, V.ro, rl_ro]) hnext rfl ?_
            simp -implicitDefEqProofs (disch := (first | omega | (simp only [List.length_append,List.length_set,List.length_cons,List.length_nil]; try omega; done))) only [↓ZD,ZP,ZL,cnd_t,cnd_f,↓reduceIte,Env.put,stepO,lenV,binV,binInt,unV,loadV,sliceV,boundOf,convV,slstrV,if_pos,if_neg,Int.reduceToNat,Nat.reducePow,V.cells,V.isCell,V.boxable,Nat.reduceEqDiff,reduceCtorEq,reduceIte,ite_self,enterEnv,e5,e7,e8,hat,zeroR,fillL,evParts,splice,List.take_zero,List.take_succ_cons,List.drop_succ_cons,List.drop_zero,List.drop_nil]
            exact gives_eq rfl rfl
          | ok kind k a1 a2 =>
            rw [htok] at hlex
            rw [nextR_ok htok] at hnext
            have hk := tokenS_n htok
            obtain ⟨x1, l1, n1, x2, l2, n2, har, r1, r2⟩ := arrS_sl (c :: rs.drop (i + 1))
            have hdl : (c :: rs.drop (i + 1)).length = rs.length - i := by rw [List.length_cons, List.length_drop]; omega
            rw [hdl] at hk
            have hdr : (c :: rs.drop (i + 1)).drop k = rs.drop (i + k) := by rw [← hdc, List.drop_drop]
            simp only [hdr,har] at hlex
            rw [har] at hnext
            generalize (c :: rs.drop (i + 1)).take k = w at *
            have hpush := hO.push (.cells 0 0 true [.int .i64 (kind : Nat), .str (encs w), .int .i64 (i : Nat), .sl x1 l1 n1, .sl x2 l2 n2])
            obtain ⟨v', H', happ, hO'⟩ := append_tk hpush ⟨kind, encs w, i, a1, a2, .sl x1 l1 n1, .sl x2 l2 n2⟩ rfl (by omega)
            simp only [Tk.R] at happ
            have hro' : roL ((O ++ [(⟨kind, encs w, i, a1, a2, .sl x1 l1 n1, .sl x2 l2 n2⟩ : Tk)]).map Tk.R).flatten = true := by
              rw [List.map_append, List.flatten_append, roL_app, hro]
              simp [Tk.R, roL, V.ro, r1, r2]
            have hlex' : lexT 0 rs = addT (O ++ [(⟨kind, encs w, i, a1, a2, .sl x1 l1 n1, .sl x2 l2 n2⟩ : Tk)]) (lexT (i + k) (rs.drop (i + k))) := by
              rw [hlex]
              cases lexT (i + k) (rs.drop (i + k)) with
              | error x => rfl
              | ok ts => simp [addT]
            simp -implicitDefEqProofs (disch := omega) only [↓ZD,ZP,cnd_t,cnd_f,↓reduceIte,Env.put,stepO,lenV,binV,binInt,unV,loadV,sliceV,boundOf,convV,slstrV,if_pos,if_neg,Int.reduceToNat,Nat.reducePow,V.cells,V.isCell,V.boxable,Nat.reduceEqDiff,reduceCtorEq,reduceIte,ite_self,enterEnv,e5,e7,e8,hat]
            refine calP_ro (by simp [roL, V.ro, rl_ro]) hnext (by simp [V.ro, roL, r1, r2]) ?_
            simp -implicitDefEqProofs (disch := (first | omega | (simp only [List.length_append,List.length_set,List.length_cons,List.length_nil]; try omega; done))) only [↓ZD,ZP,ZL,cnd_t,cnd_f,↓reduceIte,Env.put,stepO,lenV,binV,binInt,unV,loadV,sliceV,boundOf,convV,slstrV,if_pos,if_neg,Int.reduceToNat,Nat.reducePow,V.cells,V.isCell,V.boxable,Nat.reduceEqDiff,reduceCtorEq,reduceIte,ite_self,enterEnv,e5,e7,e8,hat,fillL,evParts,splice,List.take_zero,List.take_succ_cons,List.drop_succ_cons,List.drop_zero,List.drop_nil,loadV,happ]
            exact ⟨_, by omega, i + k, _, v', by omega, rfl, hO', by simp; omega, hro', hlex', rfl, rfl⟩
    · have hnl : ¬ i < rs.length := by omega
      rw [List.drop_eq_nil_of_le hge, lexT_nil] at hlex
      rw [hlex]
      obtain ⟨v', H', happ, hO'⟩ := hend
      simp -implicitDefEqProofs (disch := omega) only [↓ZD,ZP,cnd_t,cnd_f,↓reduceIte,Env.put,stepO,lenV,binV,binInt,unV,loadV,sliceV,boundOf,convV,slstrV,if_pos,if_neg,Int.reduceToNat,Nat.reducePow,V.cells,V.isCell,V.boxable,Nat.reduceEqDiff,reduceCtorEq,reduceIte,ite_self,enterEnv,e5,e7,e8,fillL,evParts,splice,List.take_zero,List.take_succ_cons,List.drop_succ_cons,List.drop_zero,List.drop_nil,happ]
      exact gives_tk hO' hro2
end Fe
open Go Go.Proofs
namespace Fe
def b410 : C :=
 (.seq
 (.region false [
 oQ 4 (.mov (.c (.bool false)))])
 (.seq
 (.seq
 (.region false [
 oQ 6 (.mov (.t 0)),
 oQ 7 (.len false (.t 6)),
 oQ 8 (.mov (.t 1)),
 oQ 9 (.len false (.t 8)),
 oQ 10 (.bin 0 .neq (.t 7) (.t 9))])
 (.cond (.t 10)
 (.seq
 (.region false [
 oQ 4 (.mov (.c (.bool false)))])
 .ret)
 .skip))
 (.seq
 (.seq
 (.region false [
 oQ 5 (.mov (.c (.int .i64 0)))])
 (.block 0
 (.loop
 (.seq
 (.seq
 (.region false [
 oQ 11 (.mov (.t 5)),
 oQ 12 (.mov (.t 0)),
 oQ 13 (.len false (.t 12)),
 oQ 14 (.bin 0 .lss (.t 11) (.t 13))])
 (.cond (.t 14)
 .skip
 (.exit 0)))
 (.seq
 (.block 1
 (.seq
 (.region true [
 oQ 17 (.mov (.t 0)),
 oQ 18 (.mov (.t 5)),
 oQ 19 (.iaddr 5 (.t 17) (.t 18)),
 oQ 20 (.faddr 0 (.t 19)),
 oQ 21 (.load false 1 (.t 20)),
 oQ 22 (.conv (.int .i64) (.t 21)),
 oQ 23 (.mov (.t 1)),
 oQ 24 (.mov (.t 5)),
 oQ 25 (.iaddr 5 (.t 23) (.t 24)),
 oQ 26 (.faddr 0 (.t 25)),
 oQ 27 (.load false 1 (.t 26)),
 oQ 28 (.bin 0 .neq (.t 22) (.t 27)),
 oQ 29 (.mov (.t 28)),
 ⟨some 30, .op (.mov (.t 0)), some (29, false)⟩,
 ⟨some 31, .op (.mov (.t 5)), some (29, false)⟩,
 ⟨some 32, .op (.iaddr 5 (.t 30) (.t 31)), some (29, false)⟩,
 ⟨some 33, .op (.faddr 1 (.t 32)), some (29, false)⟩,
 ⟨some 34, .op (.load false 1 (.t 33)), some (29, false)⟩,
 ⟨some 35, .op (.mov (.t 1)), some (29, false)⟩,
 ⟨some 36, .op (.mov (.t 5)), some (29, false)⟩,
 ⟨some 37, .op (.iaddr 5 (.t 35) (.t 36)), some (29, false)⟩,
 ⟨some 38, .op (.faddr 1 (.t 37)), some (29, false)⟩,
 ⟨some 39, .op (.load false 1 (.t 38)), some (29, false)⟩,
 ⟨some 40, .op (.bin 0 .neq (.t 34) (.t 39)), some (29, false)⟩,
 oQ 41 (.pick (.t 29) (.c (.bool true)) (.t 40)),
 oQ 42 (.mov (.t 41)),
 ⟨some 43, .op (.mov (.t 0)), some (42, false)⟩,
 ⟨some 44, .op (.mov (.t 5)), some (42, false)⟩,
 ⟨some 45, .op (.iaddr 5 (.t 43) (.t 44)), some (42, false)⟩,
 ⟨some 46, .op (.faddr 2 (.t 45)), some (42, false)⟩,
 ⟨some 47, .op (.load false 1 (.t 46)), some (42, false)⟩,
 ⟨some 48, .op (.mov (.t 1)), some (42, false)⟩,
 ⟨some 49, .op (.mov (.t 5)), some (42, false)⟩,
 ⟨some 50, .op (.iaddr 5 (.t 48) (.t 49)), some (42, false)⟩,
 ⟨some 51, .op (.faddr 2 (.t 50)), some (42, false)⟩,
 ⟨some 52, .op (.load false 1 (.t 51)), some (42, false)⟩,
 ⟨some 53, .op (.bin 0 .neq (.t 47) (.t 52)), some (42, false)⟩,
 oQ 54 (.pick (.t 42) (.c (.bool true)) (.t 53)),
 oQ 55 (.mov (.t 54)),
 ⟨some 56, .op (.mov (.t 0)), some (55, false)⟩,
 ⟨some 57, .op (.mov (.t 5)), some (55, false)⟩,
 ⟨some 58, .op (.iaddr 5 (.t 56) (.t 57)), some (55, false)⟩,
 ⟨some 59, .op (.faddr 3 (.t 58)), some (55, false)⟩,
 ⟨some 60, .op (.load true 2 (.t 59)), some (55, false)⟩,
 ⟨some 61, .op (.mov (.t 1)), some (55, false)⟩,
 ⟨some 62, .op (.mov (.t 5)), some (55, false)⟩,
 ⟨some 63, .op (.iaddr 5 (.t 61) (.t 62)), some (55, false)⟩,
 ⟨some 64, .op (.faddr 3 (.t 63)), some (55, false)⟩,
 ⟨some 65, .op (.load true 2 (.t 64)), some (55, false)⟩,
 ⟨some 66, .call false (.c (.fn 22 [] [])) [.t 60, .t 65], some (55, false)⟩,
 ⟨some 67, .op (.un .not (.t 66)), some (55, false)⟩,
 oQ 68 (.pick (.t 55) (.c (.bool true)) (.t 67))])
 (.cond (.t 68)
 (.seq
 (.region false [
 oQ 4 (.mov (.c (.bool false)))])
 .ret)
 .skip)))
 (.region false [
 oQ 15 (.mov (.t 5)),
 oQ 16 (.bin 0 .add (.t 15) (.c (.int .i64 1))),
 oQ 5 (.mov (.t 16))]))))))
 (.seq
 (.region false [
 oQ 4 (.mov (.c (.bool true)))])
 .ret))))
def c410 : CF := ⟨69, 2, [.mov (.t 4)], b410⟩
def b403 : C :=
 (.seq
 (.region false [
 oQ 2 (.mov (.c (.bool false)))])
 (.seq
 (.region false [
 oQ 10 (.mov (.t 0)),
 ⟨some 11, .call false (.c (.fn 7 [] [])) [.t 10], none⟩,
 oQ 9 (.mov (.t 11)),
 oQ 12 (.extract (.t 9) 0),
 oQ 13 (.extract (.t 9) 1),
 oQ 14 (.extract (.t 9) 2),
 oQ 3 (.mov (.t 12)),
 oQ 4 (.mov (.t 13)),
 oQ 5 (.mov (.t 14))])
 (.seq
 (.region false [
 oQ 16 (.mov (.t 0)),
 ⟨some 17, .call false (.c (.fn 8 [] [])) [.t 16], none⟩,
 oQ 15 (.mov (.t 17)),
 oQ 18 (.extract (.t 15) 0),
 oQ 19 (.extract (.t 15) 1),
 oQ 20 (.extract (.t 15) 2),
 oQ 6 (.mov (.t 18)),
 oQ 7 (.mov (.t 19)),
 oQ 8 (.mov (.t 20))])
 (.seq
 (.region false [
 ⟨some 21, .call false (.c (.fn 9 [] [])) [], none⟩,
 oQ 22 (.mov (.t 21)),
 ⟨some 23, .op (.mov (.t 3)), some (22, true)⟩,
 ⟨some 24, .op (.mov (.t 6)), some (22, true)⟩,
 ⟨some 25, .call false (.c (.fn 10 [] [])) [.t 23, .t 24], some (22, true)⟩,
 oQ 26 (.pick (.t 22) (.t 25) (.c (.bool false))),
 oQ 27 (.mov (.t 26)),
 ⟨some 28, .op (.mov (.t 4)), some (27, true)⟩,
 ⟨some 29, .op (.mov (.t 7)), some (27, true)⟩,
 ⟨some 30, .op (.bin 0 .eql (.t 28) (.t 29)), some (27, true)⟩,
 oQ 31 (.pick (.t 27) (.t 30) (.c (.bool false))),
 oQ 32 (.mov (.t 31)),
 ⟨some 33, .op (.mov (.t 5)), some (32, true)⟩,
 ⟨some 34, .op (.mov (.t 8)), some (32, true)⟩,
 ⟨some 35, .op (.bin 0 .eql (.t 33) (.t 34)), some (32, true)⟩,
 oQ 36 (.pick (.t 32) (.t 35) (.c (.bool false))),
 oQ 2 (.mov (.t 36))])
 .ret))))
def c403 : CF := ⟨37, 1, [.mov (.t 2)], b403⟩
theorem s410 : stripF Go.Proofs.Tryz.prog 10 = some c410 := by kernel_rfl
theorem s403 : stripF Go.Proofs.Tryz.prog 3 = some c403 := by kernel_rfl

/-- A token's arrays are the same by both. -/
def Tk.OK (t : Tk) : Prop := t.kind < 7 ∧ ∃ (ea eb ea' eb' : Bool) (sh : List Nat) (prs : List (List V × List V)), sh.length ≤ 1000 ∧ prs.length ≤ 100000 ∧ (∀ p ∈ prs, SIt p) ∧
  V.agg [t.a1, t.a2] = arrA ea eb sh prs ∧ V.agg [t.b1, t.b2] = arrB ea' eb' sh prs ∧ roL [t.a1, t.a2] = true ∧ roL [t.b1, t.b2] = true
theorem endT_ok (i : Nat) : (endT i).OK := ⟨(show 0 < 7 by decide), true, true, true, true, [], [], by simp, by simp, fun p hp => (List.not_mem_nil hp).elim, rfl, rfl, rfl, rfl⟩

theorem tok_same {c : Nat} {r : List Nat} {kind k : Nat} {a1 a2 : V} (hl : (c :: r).length ≤ 1024) (hch : ∀ x ∈ c :: r, charOK x) (h : tokenS (c :: r) = .ok kind k a1 a2) (i : Nat) (t : List UInt8) : (⟨kind, t, i, a1, a2, (arrS (c :: r)).1, (arrS (c :: r)).2⟩ : Tk).OK := by
  refine ⟨(tokenS_kind h).2, ?_⟩
  have nn : (nilV, nilV) = (arrS (c :: r)) → a1 = nilV → a2 = nilV → ∃ (ea eb ea' eb' : Bool) (sh : List Nat) (prs : List (List V × List V)), sh.length ≤ 1000 ∧ prs.length ≤ 100000 ∧ (∀ p ∈ prs, SIt p) ∧
      V.agg [a1, a2] = arrA ea eb sh prs ∧ V.agg [(arrS (c :: r)).1, (arrS (c :: r)).2] = arrB ea' eb' sh prs ∧ roL [a1, a2] = true ∧ roL [(arrS (c :: r)).1, (arrS (c :: r)).2] = true := by
    intro h1 h2 h3
    rw [← h1, h2, h3]
    exact ⟨true, true, true, true, [], [], by simp, by simp, fun p hp => (List.not_mem_nil hp).elim, rfl, rfl, rfl, rfl⟩
  rw [tokenS] at h
  split at h
  · rename_i hc
    have har : arrS (c :: r) = (nilV, .sl true (itemRV (ratP (encs (c :: r.takeWhile numC))).1) 1) := by rw [arrS, if_pos hc]
    rw [har]
    rw [numTok] at h
    split at h
    · rename_i hz
      simp only [TR.ok.injEq] at h
      obtain ⟨_, _, rfl, rfl⟩ := h
      obtain ⟨b, x, y, m, hr⟩ := ratP_agg (encs (c :: r.takeWhile numC))
      rw [hr] at hz ⊢
      simp only at hz
      subst hz
      obtain ⟨b', x', y', hv, hn⟩ := ratP_ok hr
      rw [hv]
      have h1 := hn.1
      have h2 := hn.2.1
      refine ⟨false, false, true, true, [], [(itemOf (rv b' x' y'), itemRV (rv b' x' y'))], by simp, by simp, ?_, rfl, rfl, by simp [roL, V.ro, itemOf, rv, nf_ro], by simp [roL, V.ro, itemRV, rv, nf_ro, nilV]⟩
      intro p hp
      rw [List.mem_singleton.1 hp]
      exact ⟨1, 0, b', false, false, false, false, false, true, lim x', lim y', by omega, by omega, rfl, rfl⟩
    · cases h
  rename_i hc1
  split at h
  · rename_i hc
    rw [textTok] at h
    cases hte : textS r with
    | none => rw [hte] at h; cases h
    | some p =>
      obtain ⟨out, m⟩ := p
      rw [hte] at h
      have hb := textS_bound _ _ (Nat.le_refl _) out m hte
      have hok : ∀ x ∈ out, charOK x := fun x hx => hch x (List.mem_cons_of_mem _ (hb.2.2 x hx))
      have hrn := rn_encs out hok
      simp only [List.length_cons] at hl
      have har : arrS (c :: r) = if out.length = 1 then (nilV, .sl true (itemC' (out.headD 0)) 1) else (.sl false [.int .i64 (out.length : Nat)] 1, .sl false (if out = [] then itemC' 32 else (out.map itemC').flatten) (if out = [] then 1 else out.length)) := by
        rw [arrS, if_neg hc1, if_pos hc, hte]
      rw [har]
      have hsi : ∀ c : Nat, SIt (itemC c, itemC' c) := fun c => ⟨2, c, false, false, false, false, true, true, true, [], [], by simp, by simp, rfl, rfl⟩
      simp only [hrn] at h
      split at h
      · rename_i h1
        simp only [TR.ok.injEq] at h
        obtain ⟨_, _, rfl, rfl⟩ := h
        rw [if_pos h1]
        refine ⟨false, false, true, true, [], [(itemC (out.headD 0), itemC' (out.headD 0))], by simp, by simp, ?_, rfl, rfl, rfl, rfl⟩
        intro p hp
        rw [List.mem_singleton.1 hp]
        exact hsi _
      · rename_i h1
        simp only [TR.ok.injEq] at h
        obtain ⟨_, _, rfl, rfl⟩ := h
        rw [if_neg h1]
        by_cases h0 : out = []
        · subst h0
          refine ⟨false, false, false, false, [0], [(itemC 32, itemC' 32)], by simp, by simp, ?_, rfl, rfl, rfl, rfl⟩
          intro p hp
          rw [List.mem_singleton.1 hp]
          exact hsi _
        · rw [if_neg h0, if_neg h0, textItems, if_neg h0]
          refine ⟨false, false, false, false, [out.length], out.map fun c => (itemC c, itemC' c), by simp, by simp; omega, ?_, ?_, ?_, ?_, ?_⟩
          · intro p hp
            obtain ⟨c, _, rfl⟩ := List.mem_map.1 hp
            exact hsi c
          · simp [arrA, shl', List.map_map, Function.comp_def]
          · simp [arrB, shl', List.map_map, Function.comp_def]
          · simp [roL, V.ro, items_ro]
          · simp [roL, V.ro, itemsR_ro]
  rename_i hc2
  have har : arrS (c :: r) = (nilV, nilV) := by rw [arrS, if_neg hc1, if_neg hc2]
  split at h
  · rw [nameTok] at h
    split at h
    · cases h
    · simp only [TR.ok.injEq] at h
      exact nn har.symm h.2.2.1.symm h.2.2.2.symm
  split at h
  · simp only [TR.ok.injEq] at h; exact nn har.symm h.2.2.1.symm h.2.2.2.symm
  split at h
  · simp only [TR.ok.injEq] at h; exact nn har.symm h.2.2.1.symm h.2.2.2.symm
  split at h
  · simp only [TR.ok.injEq] at h; exact nn har.symm h.2.2.1.symm h.2.2.2.symm
  · cases h

theorem lexP_ok : ∀ (n i : Nat) (l : List Nat) (ts : List Tk), l.length ≤ 1024 → (∀ c ∈ l, charOK c) → lexP n i l = .ok ts → (∀ t ∈ ts, t.OK) ∧ ts.length ≤ l.length + 1
  | 0, i, l, ts, _, _, h => by cases h; exact ⟨fun t ht => (List.not_mem_nil ht).elim, Nat.zero_le _⟩
  | n + 1, i, l, ts, hl, hch, h => by
    rw [lexP] at h
    have hdl := dw_len (p := blankC) l
    have fin : (∀ t ∈ [endT (i + (l.takeWhile blankC).length)], t.OK) ∧ [endT (i + (l.takeWhile blankC).length)].length ≤ l.length + 1 :=
      ⟨fun t ht => by rw [List.mem_singleton.1 ht]; exact endT_ok _, by simp⟩
    cases hdw : l.dropWhile blankC with
    | nil => rw [hdw] at h; cases h; exact fin
    | cons c r =>
      rw [hdw] at h hdl
      simp only at h
      by_cases hc : c = 9053
      · rw [if_pos hc] at h; cases h; exact fin
      · rw [if_neg hc] at h
        have hch' : ∀ x ∈ c :: r, charOK x := fun x hx => hch x (by
          have : l.takeWhile blankC ++ l.dropWhile blankC = l := List.takeWhile_append_dropWhile
          rw [← this, hdw]; exact List.mem_append_right _ hx)
        cases htok : tokenS (c :: r) with
        | err er => rw [htok] at h; cases h
        | ok kind k a1 a2 =>
          rw [htok] at h
          simp only at h
          have hk := tokenS_n htok
          have hd : ((c :: r).drop k).length = (c :: r).length - k := List.length_drop
          cases hrec : lexP n (i + (l.takeWhile blankC).length + k) ((c :: r).drop k) with
          | error x => rw [hrec] at h; cases h
          | ok ts1 =>
            rw [hrec] at h
            cases h
            obtain ⟨h1, h2⟩ := lexP_ok n _ _ ts1 (by omega) (fun x hx => hch' x (List.mem_of_mem_drop hx)) hrec
            refine ⟨fun t ht => ?_, by simp only [List.length_cons] at *; omega⟩
            rcases List.mem_cons.1 ht with rfl | ht
            · exact tok_same (by omega) hch' htok _ _
            · exact h1 t ht

theorem good7t (t : Tk) (h : t.OK) : Good Go.Proofs.Tryz.prog 22 [.agg [t.a1, t.a2], .agg [t.b1, t.b2]] (.bool true) := by
  obtain ⟨_, ea, eb, ea', eb', sh, prs, h1, h2, h3, h4, h5, _⟩ := h
  rw [h4, h5]
  exact good7g ea eb ea' eb' sh prs h1 h2 h3

set_option maxHeartbeats 1000000 in
theorem good410 (ea eb : Bool) (ts : List Tk) (hl : ts.length ≤ 100000) (hok : ∀ t ∈ ts, t.OK) : Good Go.Proofs.Tryz.prog 10 [.sl ea (ts.map Tk.L).flatten ts.length, .sl eb (ts.map Tk.R).flatten ts.length] (.bool true) := by
  refine good_go mix s410 (Nat.le_of_ble_eq_true rfl) fun e he => ?_
  obtain ⟨I, hI⟩ : ∃ I, I = ts.map Tk.L := ⟨_, rfl⟩
  obtain ⟨J, hJ⟩ : ∃ J, J = ts.map Tk.R := ⟨_, rfl⟩
  have e0 : e 0 = .sl ea I.flatten ts.length := by rw [hI]; exact he 0
  have e1 : e 1 = .sl eb J.flatten ts.length := by rw [hJ]; exact he 1
  clear he
  have hIf : I.flatten.length = ts.length * 5 := by
    rw [hI, flat_len _ (fun t ht => by obtain ⟨c, _, rfl⟩ := List.mem_map.1 ht; rfl), List.length_map]
  have hJf : J.flatten.length = ts.length * 5 := by rw [hJ]; exact tkR_len ts
  simp only [c410,b410, oQ]
  simp -implicitDefEqProofs (disch := omega) only [↓ZD,ZP,cnd_t,cnd_f,↓reduceIte,Env.put,stepO,lenV,binV,binInt,unV,loadV,sliceV,boundOf,convV,slstrV,if_pos,if_neg,Int.reduceToNat,Nat.reducePow,V.cells,V.isCell,V.boxable,Nat.reduceEqDiff,reduceCtorEq,reduceIte,ite_self,enterEnv,e0,e1,bne_self_eq_false]
  refine go_loop (fun m e H => ∃ A Z, ts = A ++ Z ∧ m = Z.length ∧ e 0 = .sl ea I.flatten ts.length ∧ e 1 = .sl eb J.flatten ts.length ∧ e 5 = .int .i64 (A.length : Nat)) ts.length ⟨[], ts, rfl, rfl, ?_, ?_, ?_⟩ ?_
  · simp [Env.set, e0]
  · simp [Env.set, e1]
  · simp [Env.set]
  clear e0 e1
  rintro m e H ⟨A, Z, hAZ, rfl, e0, e1, e5⟩
  have hlen : ts.length = A.length + Z.length := by rw [hAZ]; simp
  cases Z with
  | nil =>
    simp only [List.length_nil,Nat.add_zero] at hlen
    simp -implicitDefEqProofs (disch := omega) only [↓ZD,ZP,cnd_t,cnd_f,↓reduceIte,Env.put,stepO,lenV,binV,binInt,unV,loadV,sliceV,boundOf,convV,slstrV,if_pos,if_neg,Int.reduceToNat,Nat.reducePow,V.cells,V.isCell,V.boxable,Nat.reduceEqDiff,reduceCtorEq,reduceIte,ite_self,enterEnv,e0,e1,e5]
    exact gives_eq rfl rfl
  | cons t Z =>
    simp only [List.length_cons] at hlen
    have ht : t.OK := hok t (by rw [hAZ]; simp)
    have hg := good7t t ht
    obtain ⟨hkind, _, _, _, _, _, _, _, _, _, _, _, hra, hrb⟩ := ht
    have hA5 : ∀ x ∈ A.map Tk.L, x.length = 5 := fun x hx => by obtain ⟨c, _, rfl⟩ := List.mem_map.1 hx; rfl
    have hB5 : ∀ x ∈ A.map Tk.R, x.length = 5 := fun x hx => by obtain ⟨c, _, rfl⟩ := List.mem_map.1 hx; rfl
    have hI2 : I = A.map Tk.L ++ tokC t.kind t.text t.pos t.a1 t.a2 :: Z.map Tk.L := by rw [hI, hAZ, List.map_append]; rfl
    have hJ2 : J = A.map Tk.R ++ [.int .i64 (t.kind : Nat), .str t.text, .int .i64 (t.pos : Nat), t.b1, t.b2] :: Z.map Tk.R := by rw [hJ, hAZ, List.map_append]; rfl
    have hi : ∀ j, j < 5 → I.flatten[A.length * 5 + j]? = (tokC t.kind t.text t.pos t.a1 t.a2)[j]? := fun j hj => by
      rw [hI2, ← List.length_map (f := Tk.L)]; exact flat5_at hA5 rfl hj
    have hj : ∀ j, j < 5 → J.flatten[A.length * 5 + j]? = ([.int .i64 (t.kind : Nat), .str t.text, .int .i64 (t.pos : Nat), t.b1, t.b2] : List V)[j]? := fun j hj => by
      rw [hJ2, ← List.length_map (f := Tk.R)]; exact flat5_at hB5 rfl hj
    have i0 := hi 0 (by decide)
    have i1 := hi 1 (by decide)
    have i2 := hi 2 (by decide)
    have j0 := hj 0 (by decide)
    have j1 := hj 1 (by decide)
    have j2 := hj 2 (by decide)
    have i3 : (I.flatten.drop (A.length * 5 + 3)).take 2 = [t.a1, t.a2] := by
      rw [hI2, ← List.length_map (f := Tk.L)]; exact flat5_two hA5
    have j3 : (J.flatten.drop (A.length * 5 + 3)).take 2 = [t.b1, t.b2] := by
      rw [hJ2, ← List.length_map (f := Tk.R)]; exact flat5_two hB5
    simp only [tokC,List.getElem?_cons_zero,List.getElem?_cons_succ,Nat.add_zero] at i0 i1 i2 j0 j1 j2
    simp -implicitDefEqProofs (disch := omega) only [↓ZD,ZP,cnd_t,cnd_f,↓reduceIte,Env.put,stepO,lenV,binV,binInt,unV,loadV,sliceV,boundOf,convV,slstrV,if_pos,if_neg,Int.reduceToNat,Nat.reducePow,V.cells,V.isCell,V.boxable,Nat.reduceEqDiff,reduceCtorEq,reduceIte,ite_self,enterEnv,e0,e1,e5,i0,i1,i2,i3,j0,j1,j2,j3,hIf,hJf,loadV,binStr,bne_self_eq_false]
    have hrab : roL [V.agg [t.a1, t.a2], V.agg [t.b1, t.b2]] = true := by
      show (roL [t.a1, t.a2] && (roL [t.b1, t.b2] && true)) = true
      rw [hra, hrb]; rfl
    refine calP_ro hrab hg rfl ?_
    simp -implicitDefEqProofs (disch := omega) only [↓ZD,ZP,cnd_t,cnd_f,↓reduceIte,Env.put,stepO,lenV,binV,binInt,unV,loadV,sliceV,boundOf,convV,slstrV,if_pos,if_neg,Int.reduceToNat,Nat.reducePow,V.cells,V.isCell,V.boxable,Nat.reduceEqDiff,reduceCtorEq,reduceIte,ite_self,enterEnv,e0,e1,e5]
    exact ⟨Z.length, by simp, A ++ [t], Z, by rw [hAZ]; simp, rfl, by simp⟩

theorem ok_ro : ∀ ts : List Tk, (∀ t ∈ ts, t.OK) → roL (ts.map Tk.L).flatten = true ∧ roL (ts.map Tk.R).flatten = true
  | [], _ => ⟨rfl, rfl⟩
  | t :: ts, h => by
    obtain ⟨h1, h2⟩ := ok_ro ts fun x hx => h x (List.mem_cons_of_mem _ hx)
    obtain ⟨_, _, _, _, _, _, _, _, _, _, _, _, hra, hrb⟩ := h t (List.mem_cons_self ..)
    simp only [List.map_cons,List.flatten_cons,roL_app,h1,h2,Bool.and_true]
    constructor
    · simp only [Tk.L,tokC,roL,V.ro,Bool.true_and] at *; exact hra
    · simp only [Tk.R,roL,V.ro,Bool.true_and] at *; exact hrb

/-- What both hand back. -/
theorem both_cases (s : List UInt8) : (∃ er j : Nat, er ≠ 0 ∧ allR s = .tup [.sl false [] 0, .int .i64 (er : Nat), .int .i64 (j : Nat)] ∧ allQ s = .tup [.sl false [] 0, .int .i64 (er : Nat), .int .i64 (j : Nat)]) ∨
    (∃ ts : List Tk, s.length ≤ 1024 ∧ bad s = none ∧ lexP ((rn s).length + 1) 0 (rn s) = .ok ts ∧ (∀ t ∈ ts, t.OK) ∧ ts.length ≤ 1025 ∧ allR s = .tup [.sl false (ts.map Tk.L).flatten ts.length, .int .i64 0, .int .i64 0] ∧ allQ s = .tup [.sl false (ts.map Tk.R).flatten ts.length, .int .i64 0, .int .i64 0]) := by
  unfold allR allQ
  by_cases hl : 1024 < s.length
  · rw [if_pos hl, if_pos hl]
    exact .inl ⟨25, 0, by decide, rfl, rfl⟩
  rw [if_neg hl, if_neg hl]
  cases hb : bad s with
  | some i => exact .inl ⟨26, i, by decide, rfl, rfl⟩
  | none =>
    have hL := lexL_P ((rn s).length + 1) 0 (rn s)
    have hT : lexT 0 (rn s) = lexP ((rn s).length + 1) 0 (rn s) := rfl
    simp only [hT,hL]
    cases hP : lexP ((rn s).length + 1) 0 (rn s) with
    | error x =>
      obtain ⟨e, j⟩ := x
      exact .inl ⟨e, j, lexT_err hP, rfl, rfl⟩
    | ok ts =>
      have hrl := rn_len s
      obtain ⟨h1, h2⟩ := lexP_ok _ 0 (rn s) ts (by omega) (rn_ok _ _) hP
      refine .inr ⟨ts, by omega, by first | trivial | rfl, by first | rfl | exact hP, h1, by omega, ?_, rfl⟩
      simp only [List.length_map]

theorem good403 (s : List UInt8) : Good Go.Proofs.Tryz.prog 3 [.str s] (.bool true) := by
  have h5 := good5 s
  have h8 := good408 s
  refine good_go mix s403 (Nat.le_of_ble_eq_true rfl) fun e he => ?_
  have e0 : e 0 = .str s := he 0
  clear he
  simp only [c403,b403, oQ]
  simp -implicitDefEqProofs (disch := omega) only [↓ZD,ZP,cnd_t,cnd_f,↓reduceIte,Env.put,stepO,lenV,binV,binInt,unV,loadV,sliceV,boundOf,convV,slstrV,if_pos,if_neg,Int.reduceToNat,Nat.reducePow,V.cells,V.isCell,V.boxable,Nat.reduceEqDiff,reduceCtorEq,reduceIte,ite_self,enterEnv,e0]
  rcases both_cases s with ⟨er, j, hne, h1, h2⟩ | ⟨ts, _, _, _, hok, hn, h1, h2⟩
  · rw [h1] at h5
    rw [h2] at h8
    have hs := good410 false false [] (by simp) (fun t ht => (List.not_mem_nil ht).elim)
    refine calP_ro rfl h5 rfl ?_
    simp -implicitDefEqProofs (disch := omega) only [↓ZD,ZP,cnd_t,cnd_f,↓reduceIte,Env.put,stepO,lenV,binV,binInt,unV,loadV,sliceV,boundOf,convV,slstrV,if_pos,if_neg,Int.reduceToNat,Nat.reducePow,V.cells,V.isCell,V.boxable,Nat.reduceEqDiff,reduceCtorEq,reduceIte,ite_self,enterEnv,e0]
    refine calP_ro rfl h8 rfl ?_
    simp -implicitDefEqProofs (disch := omega) only [↓ZD,ZP,cnd_t,cnd_f,↓reduceIte,Env.put,stepO,lenV,binV,binInt,unV,loadV,sliceV,boundOf,convV,slstrV,if_pos,if_neg,Int.reduceToNat,Nat.reducePow,V.cells,V.isCell,V.boxable,Nat.reduceEqDiff,reduceCtorEq,reduceIte,ite_self,enterEnv,e0]
    refine calP_ro rfl good6 rfl ?_
    simp -implicitDefEqProofs (disch := omega) only [↓ZD,ZP,cnd_t,cnd_f,↓reduceIte,Env.put,stepO,lenV,binV,binInt,unV,loadV,sliceV,boundOf,convV,slstrV,if_pos,if_neg,Int.reduceToNat,Nat.reducePow,V.cells,V.isCell,V.boxable,Nat.reduceEqDiff,reduceCtorEq,reduceIte,ite_self,enterEnv,e0]
    refine calP_ro rfl hs rfl ?_
    simp -implicitDefEqProofs (disch := omega) only [↓ZD,ZP,cnd_t,cnd_f,↓reduceIte,Env.put,stepO,lenV,binV,binInt,unV,loadV,sliceV,boundOf,convV,slstrV,if_pos,if_neg,Int.reduceToNat,Nat.reducePow,V.cells,V.isCell,V.boxable,Nat.reduceEqDiff,reduceCtorEq,reduceIte,ite_self,enterEnv,e0]
    exact gives_eq rfl rfl
  · rw [h1] at h5
    rw [h2] at h8
    obtain ⟨r1, r2⟩ := ok_ro ts hok
    have hs := good410 false false ts (by omega) hok
    refine calP_ro rfl h5 (by simp [V.ro, roL, r1]) ?_
    simp -implicitDefEqProofs (disch := omega) only [↓ZD,ZP,cnd_t,cnd_f,↓reduceIte,Env.put,stepO,lenV,binV,binInt,unV,loadV,sliceV,boundOf,convV,slstrV,if_pos,if_neg,Int.reduceToNat,Nat.reducePow,V.cells,V.isCell,V.boxable,Nat.reduceEqDiff,reduceCtorEq,reduceIte,ite_self,enterEnv,e0]
    refine calP_ro rfl h8 (by simp [V.ro, roL, r2]) ?_
    simp -implicitDefEqProofs (disch := omega) only [↓ZD,ZP,cnd_t,cnd_f,↓reduceIte,Env.put,stepO,lenV,binV,binInt,unV,loadV,sliceV,boundOf,convV,slstrV,if_pos,if_neg,Int.reduceToNat,Nat.reducePow,V.cells,V.isCell,V.boxable,Nat.reduceEqDiff,reduceCtorEq,reduceIte,ite_self,enterEnv,e0]
    refine calP_ro rfl good6 rfl ?_
    simp -implicitDefEqProofs (disch := omega) only [↓ZD,ZP,cnd_t,cnd_f,↓reduceIte,Env.put,stepO,lenV,binV,binInt,unV,loadV,sliceV,boundOf,convV,slstrV,if_pos,if_neg,Int.reduceToNat,Nat.reducePow,V.cells,V.isCell,V.boxable,Nat.reduceEqDiff,reduceCtorEq,reduceIte,ite_self,enterEnv,e0]
    refine calP_ro (by simp [V.ro, roL, r1, r2]) hs rfl ?_
    simp -implicitDefEqProofs (disch := omega) only [↓ZD,ZP,cnd_t,cnd_f,↓reduceIte,Env.put,stepO,lenV,binV,binInt,unV,loadV,sliceV,boundOf,convV,slstrV,if_pos,if_neg,Int.reduceToNat,Nat.reducePow,V.cells,V.isCell,V.boxable,Nat.reduceEqDiff,reduceCtorEq,reduceIte,ite_self,enterEnv,e0]
    exact gives_eq rfl rfl
end Fe
