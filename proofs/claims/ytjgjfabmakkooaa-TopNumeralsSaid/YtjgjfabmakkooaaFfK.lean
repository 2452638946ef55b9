/-
  Contracts: a line's tokens; arrays that are the same; a line that lives. No condition.
-/
import Derived.Test.YtjgjfabmakkooaaFfI
set_option linter.unusedSimpArgs false
set_option linter.unusedVariables false
open Go Go.Proofs
namespace Fe
def r5_0 : C :=
 (.seq
 (.region false [
 oQ 9 (.box (.c (.agg [.int .u8 0, .str [], .int .i64 0, .sl true [] 0, .sl true [] 0]))),
 ⟨none, .op (.store 5 (.t 9) (.t 26)), none⟩])
 (.region false [
 oQ 10 (.mov (.t 27))]))
def r5_1 : C :=
 (.block 1
 (.seq
 (.seq
 (.region false [
 oQ 28 (.mov (.t 10)),
 oQ 29 (.bin 0 .neq (.t 28) (.c (.int .i64 0)))])
 (.cond (.t 29)
 (.seq
 (.region true [
 oQ 30 (.mov (.t 10)),
 oQ 31 (.faddr 2 (.t 9)),
 oQ 32 (.loadx false 1 (.t 31) [.t 2, .t 3, .t 4]),
 ⟨none, .op (.store 1 (.t 2) (.c (.sl true [] 0))), none⟩,
 ⟨none, .op (.store 1 (.t 3) (.t 30)), none⟩,
 ⟨none, .op (.store 1 (.t 4) (.t 32)), none⟩])
 .ret)
 .skip))
 (.region false [
 oQ 33 (.load false 1 (.t 8)),
 oQ 34 (.load true 5 (.t 9)),
 oQ 35 (.mksl [.int .u8 0, .str [], .int .i64 0, .sl true [] 0, .sl true [] 0] 1 [(0, (5, .t 34))]),
 oQ 36 (.append 5 80 (.t 33) (.t 35)),
 ⟨none, .op (.store 1 (.t 8) (.t 36)), none⟩])))
def b5 : C :=
 (.seq
 (.region false [
 oQ 2 (.box (.c (.sl true [] 0))),
 oQ 3 (.box (.c (.int .i64 0))),
 oQ 4 (.box (.c (.int .i64 0)))])
 (.seq
 (.seq
 (.region false [
 oQ 11 (.mov (.t 0)),
 oQ 12 (.len true (.t 11)),
 oQ 13 (.bin 0 .gtr (.t 12) (.c (.int .i64 1024)))])
 (.cond (.t 13)
 (.seq
 (.region false [
 ⟨none, .op (.store 1 (.t 2) (.c (.sl true [] 0))), none⟩,
 ⟨none, .op (.store 1 (.t 3) (.c (.int .i64 25))), none⟩,
 ⟨none, .op (.store 1 (.t 4) (.c (.int .i64 0))), none⟩])
 .ret)
 .skip))
 (.seq
 (.region false [
 oQ 15 (.mov (.t 0)),
 ⟨some 16, .call false (.c (.fn 13 [] [])) [.t 15], none⟩,
 oQ 14 (.mov (.t 16)),
 oQ 17 (.extract (.t 14) 0),
 oQ 18 (.extract (.t 14) 1),
 oQ 19 (.extract (.t 14) 2),
 oQ 5 (.mov (.t 17)),
 oQ 6 (.mov (.t 18)),
 oQ 7 (.mov (.t 19))])
 (.seq
 (.seq
 (.region false [
 oQ 20 (.mov (.t 6)),
 oQ 21 (.bin 0 .neq (.t 20) (.c (.int .i64 0)))])
 (.cond (.t 21)
 (.seq
 (.region false [
 oQ 22 (.mov (.t 6)),
 oQ 23 (.mov (.t 7)),
 ⟨none, .op (.store 1 (.t 2) (.c (.sl true [] 0))), none⟩,
 ⟨none, .op (.store 1 (.t 3) (.t 22)), none⟩,
 ⟨none, .op (.store 1 (.t 4) (.t 23)), none⟩])
 .ret)
 .skip))
 (.seq
 (.region false [
 oQ 8 (.box (.c (.sl true [] 0)))])
 (.seq
 (.seq
 (.region false [
 oQ 24 (.mov (.t 5)),
 ⟨some 25, .call false (.c (.fn 14 [] [])) [.t 24], none⟩])
 (.block 0
 (.rangef (.t 25) [26, 27] r5_0 r5_1)))
 (.seq
 (.region false [
 oQ 37 (.load false 1 (.t 8)),
 ⟨none, .op (.store 1 (.t 2) (.t 37)), none⟩,
 ⟨none, .op (.store 1 (.t 3) (.c (.int .i64 0))), none⟩,
 ⟨none, .op (.store 1 (.t 4) (.c (.int .i64 0))), none⟩])
 .ret)))))))
def c5 : CF := ⟨38, 1, [.load false 1 (.t 2), .load false 1 (.t 3), .load false 1 (.t 4)], b5⟩
theorem s5 : stripF Go.Proofs.Try.prog 5 = some c5 := by kernel_rfl

/-- A line's tokens, as All hands them back. -/
def allR (s : List UInt8) : V :=
  if 1024 < s.length then .tup [.sl false [] 0, .int .i64 25, .int .i64 0]
  else match bad s with
    | some i => .tup [.sl false [] 0, .int .i64 26, .int .i64 (i : Nat)]
    | none => match lexL ((rn s).length + 1) 0 (rn s) with
      | .error (e, j) => .tup [.sl false [] 0, .int .i64 (e : Nat), .int .i64 (j : Nat)]
      | .ok ts => .tup [.sl false ts.flatten ts.length, .int .i64 0, .int .i64 0]

/-- All's memory, behind some tokens. -/
structure AJ (S : Nat → List Nat → Go.Code → Go.Code → Prop) (e : Env) (ts : List (List V)) (H : Heap) : Prop where
  len : 6 ≤ H.length
  r0 : ∃ x, H[0]? = some (.cells 0 0 true [x])
  r1 : ∃ x, H[1]? = some (.cells 0 0 true [x])
  r2 : ∃ x, H[2]? = some (.cells 0 0 true [x])
  out : ∃ v, H[3]? = some (.cells 0 0 true [v]) ∧ ((ts = [] ∧ v = .sl true [] 0) ∨ ∃ b g, v = .view b g 0 ts.length ∧ 6 ≤ b ∧ H[b]? = some (.cells g 5 true ts.flatten))
  loop : H[4]? = some (.loop S [26, 27] e .ready none)
  five : ∀ t ∈ ts, t.length = 5
  ro : roL ts.flatten = true
  few : ts.length ≤ H.length

/-- Behind an error. -/
structure AE (S : Nat → List Nat → Go.Code → Go.Code → Prop) (e : Env) (er j : Nat) (H : Heap) : Prop where
  r0 : H[0]? = some (.cells 0 0 true [.sl true [] 0])
  r1 : H[1]? = some (.cells 0 0 true [.int .i64 (er : Nat)])
  r2 : H[2]? = some (.cells 0 0 true [.int .i64 (j : Nat)])
  loop : H[4]? = some (.loop S [26, 27] e .done (some .ret))

theorem flat_len : ∀ (ts : List (List V)), (∀ t ∈ ts, t.length = 5) → ts.flatten.length = ts.length * 5
  | [], _ => rfl
  | t :: ts, h => by
    rw [List.flatten_cons, List.length_append, flat_len ts (fun x hx => h x (List.mem_cons_of_mem _ hx)), h t (List.mem_cons_self ..), List.length_cons]
    omega

theorem aj_set {S : Nat → List Nat → Go.Code → Go.Code → Prop} {e : Env} {ts : List (List V)} {H : Heap} {x : HObj} {T : Heap} (h : AJ S e ts H) : AJ S e ts (H.set 5 x ++ T) := by
  have hl := h.len
  have hg : ∀ j, j < H.length → ¬ j = 5 → (H.set 5 x ++ T)[j]? = H[j]? := by
    intro j h1 h2
    rw [List.getElem?_append_left (by rw [List.length_set]; exact h1), get_set_ne h2]
  obtain ⟨v, hv, hw⟩ := h.out
  refine ⟨by simp; omega, ?_, ?_, ?_, ⟨v, by rw [hg 3 (by omega) (by decide)]; exact hv, ?_⟩, by rw [hg 4 (by omega) (by decide)]; exact h.loop, h.five, h.ro, by have := h.few; simp; omega⟩
  · rw [hg 0 (by omega) (by decide)]; exact h.r0
  · rw [hg 1 (by omega) (by decide)]; exact h.r1
  · rw [hg 2 (by omega) (by decide)]; exact h.r2
  · rcases hw with hw | ⟨b, g, h1, h2, h3⟩
    · exact .inl hw
    · exact .inr ⟨b, g, h1, h2, by rw [hg b (getElem?_lt h3) (by omega)]; exact h3⟩

theorem aj_round {e : Env} {ts : List (List V)} {H : Heap} {kind j : Nat} {text : List UInt8} {x1 x2 : Bool} {l1 l2 : List V} {n1 n2 : Nat} (e2 : e 2 = .cell 0 0 0) (e3 : e 3 = .cell 1 0 0) (e4 : e 4 = .cell 2 0 0) (e8 : e 8 = .cell 3 0 0) (hJ : AJ (Strp Go.Proofs.Try.prog r5_0 r5_1) e ts H)
    (hr1 : roL l1 = true) (hr2 : roL l2 = true) (hlen : ts.length ≤ 100000) :
    Yld Go.Proofs.Try.prog 4 [.agg (tokC kind text j (.sl x1 l1 n1) (.sl x2 l2 n2)), .int .i64 0] H fun r H' => r = .bool true ∧ AJ (Strp Go.Proofs.Try.prog r5_0 r5_1) e (ts ++ [tokC kind text j (.sl x1 l1 n1) (.sl x2 l2 n2)]) H' ∧ H'[5]? = H[5]? := by
  obtain ⟨h1, ⟨y0, g0⟩, ⟨y1, g1⟩, ⟨y2, g2⟩, ⟨v, h3, h4⟩, h6, h7, h8, h9⟩ := hJ
  refine yld_go mix h6 rfl fun e₀ he₀ => ?_
  have f8 : e₀ 8 = .cell 3 0 0 := by rw [he₀]; simp [setL, Env.set, e8]
  have f26 : e₀ 26 = .agg (tokC kind text j (.sl x1 l1 n1) (.sl x2 l2 n2)) := by rw [he₀]; simp [setL, Env.set]
  have f27 : e₀ 27 = .int .i64 0 := by rw [he₀]; simp [setL, Env.set]
  clear he₀
  generalize hS : Strp Go.Proofs.Try.prog r5_0 r5_1 = S at *
  simp only [r5_0, oQ]
  simp -implicitDefEqProofs (disch := (first | omega | (simp only [List.length_append,List.length_set,List.length_cons,List.length_nil]; try omega; done))) only [↓ZD,ZP,ZL,cnd_t,cnd_f,↓reduceIte,Env.put,stepO,lenV,binV,binInt,unV,loadV,sliceV,boundOf,convV,slstrV,if_pos,if_neg,Int.reduceToNat,Nat.reducePow,V.cells,V.isCell,V.boxable,Nat.reduceEqDiff,reduceCtorEq,reduceIte,ite_self,enterEnv,f8,f26,f27,tokC,fillL,evParts,splice,List.take_zero,List.take_succ_cons,List.drop_succ_cons,List.drop_zero,List.drop_nil]
  refine ⟨none, h6, ?_⟩
  simp only [r5_1, oQ]
  have hfl := flat_len ts h7
  have hfive : ∀ t ∈ ts ++ [tokC kind text j (.sl x1 l1 n1) (.sl x2 l2 n2)], t.length = 5 := by
    intro t ht
    rcases List.mem_append.1 ht with ht | ht
    · exact h7 t ht
    · rw [List.mem_singleton.1 ht]; rfl
  have hro : roL (ts ++ [tokC kind text j (.sl x1 l1 n1) (.sl x2 l2 n2)]).flatten = true := by
    rw [List.flatten_append, roL_app, h8]
    simp [tokC, roL, V.ro, hr1, hr2]
  have hfa : (ts ++ [tokC kind text j (.sl x1 l1 n1) (.sl x2 l2 n2)]).flatten = ts.flatten ++ [.int .u8 (kind : Nat), .str text, .int .i64 (j : Nat), .sl x1 l1 n1, .sl x2 l2 n2] := by
    rw [List.flatten_append]; rfl
  have hla : (ts ++ [tokC kind text j (.sl x1 l1 n1) (.sl x2 l2 n2)]).length = ts.length + 1 := by simp
  simp only [tokC] at hfive hro hfa hla
  rcases h4 with ⟨rfl, rfl⟩ | ⟨bb, g, rfl, hb, h4⟩
  · simp -implicitDefEqProofs (disch := (first | omega | (simp only [List.length_append,List.length_set,List.length_cons,List.length_nil]; try omega; done))) only [↓ZD,ZP,ZL,cnd_t,cnd_f,↓reduceIte,Env.put,stepO,lenV,binV,binInt,unV,loadV,sliceV,boundOf,convV,slstrV,if_pos,if_neg,Int.reduceToNat,Nat.reducePow,V.cells,V.isCell,V.boxable,Nat.reduceEqDiff,reduceCtorEq,reduceIte,ite_self,enterEnv,f8,f26,f27,fillL,evParts,splice,List.take_zero,List.take_succ_cons,List.drop_succ_cons,List.drop_zero,List.drop_nil,h3,h6,appendV,srcCells,readSl]
    refine ⟨⟨.busy, none, by simp -implicitDefEqProofs (disch := (first | omega | (simp only [List.length_append,List.length_set,List.length_cons,List.length_nil]; try omega; done))) only [get_push_at,get_push_eq,set_push,get_push,get_set_ne,get_set_self,len_push,len_set]⟩, rfl, ⟨by simp; try omega, ⟨y0, by simp -implicitDefEqProofs (disch := (first | omega | (simp only [List.length_append,List.length_set,List.length_cons,List.length_nil]; try omega; done))) only [get_push_at,get_push_eq,set_push,get_push,get_set_ne,get_set_self,len_push,len_set,g0]⟩, ⟨y1, by simp -implicitDefEqProofs (disch := (first | omega | (simp only [List.length_append,List.length_set,List.length_cons,List.length_nil]; try omega; done))) only [get_push_at,get_push_eq,set_push,get_push,get_set_ne,get_set_self,len_push,len_set,g1]⟩, ⟨y2, by simp -implicitDefEqProofs (disch := (first | omega | (simp only [List.length_append,List.length_set,List.length_cons,List.length_nil]; try omega; done))) only [get_push_at,get_push_eq,set_push,get_push,get_set_ne,get_set_self,len_push,len_set,g2]⟩, ⟨.view (H.length + 1) 0 0 1, by simp -implicitDefEqProofs (disch := (first | omega | (simp only [List.length_append,List.length_set,List.length_cons,List.length_nil]; try omega; done))) only [get_push_at,get_push_eq,set_push,get_push,get_set_ne,get_set_self,len_push,len_set], .inr ⟨H.length + 1, 0, rfl, by omega, ?_⟩⟩, by simp -implicitDefEqProofs (disch := (first | omega | (simp only [List.length_append,List.length_set,List.length_cons,List.length_nil]; try omega; done))) only [get_push_at,get_push_eq,set_push,get_push,get_set_ne,get_set_self,len_push,len_set], hfive, hro, by simp; try omega⟩, by simp -implicitDefEqProofs (disch := (first | omega | (simp only [List.length_append,List.length_set,List.length_cons,List.length_nil]; try omega; done))) only [get_push_at,get_push_eq,set_push,get_push,get_set_ne,get_set_self,len_push,len_set]⟩
    simp -implicitDefEqProofs (disch := (first | omega | (simp only [List.length_append,List.length_set,List.length_cons,List.length_nil]; try omega; done))) only [get_push_at,get_push_eq,set_push,get_push,get_set_ne,get_set_self,len_push,len_set]
    rfl
  · have hbl := getElem?_lt h4
    have hft : ts.flatten.take (ts.length * 5) = ts.flatten := by rw [← hfl, List.take_length]
    simp -implicitDefEqProofs (disch := (first | omega | (simp only [List.length_append,List.length_set,List.length_cons,List.length_nil]; try omega; done))) only [↓ZD,ZP,ZL,cnd_t,cnd_f,↓reduceIte,Env.put,stepO,lenV,binV,binInt,unV,loadV,sliceV,boundOf,convV,slstrV,if_pos,if_neg,Int.reduceToNat,Nat.reducePow,V.cells,V.isCell,V.boxable,Nat.reduceEqDiff,reduceCtorEq,reduceIte,ite_self,enterEnv,f8,f26,f27,fillL,evParts,splice,List.take_zero,List.take_succ_cons,List.drop_succ_cons,List.drop_zero,List.drop_nil,h3,h4,h6,appendV,srcCells,readSl,hfl,hft]
    refine ⟨⟨.busy, none, by simp -implicitDefEqProofs (disch := (first | omega | (simp only [List.length_append,List.length_set,List.length_cons,List.length_nil]; try omega; done))) only [get_push_at,get_push_eq,set_push,get_push,get_set_ne,get_set_self,len_push,len_set]⟩, rfl, ⟨by simp; try omega, ⟨y0, by simp -implicitDefEqProofs (disch := (first | omega | (simp only [List.length_append,List.length_set,List.length_cons,List.length_nil]; try omega; done))) only [get_push_at,get_push_eq,set_push,get_push,get_set_ne,get_set_self,len_push,len_set,g0]⟩, ⟨y1, by simp -implicitDefEqProofs (disch := (first | omega | (simp only [List.length_append,List.length_set,List.length_cons,List.length_nil]; try omega; done))) only [get_push_at,get_push_eq,set_push,get_push,get_set_ne,get_set_self,len_push,len_set,g1]⟩, ⟨y2, by simp -implicitDefEqProofs (disch := (first | omega | (simp only [List.length_append,List.length_set,List.length_cons,List.length_nil]; try omega; done))) only [get_push_at,get_push_eq,set_push,get_push,get_set_ne,get_set_self,len_push,len_set,g2]⟩, ⟨.view bb (g + 1) 0 (ts.length + 1), by simp -implicitDefEqProofs (disch := (first | omega | (simp only [List.length_append,List.length_set,List.length_cons,List.length_nil]; try omega; done))) only [get_push_at,get_push_eq,set_push,get_push,get_set_ne,get_set_self,len_push,len_set], .inr ⟨bb, g + 1, by rw [hla], hb, ?_⟩⟩, by simp -implicitDefEqProofs (disch := (first | omega | (simp only [List.length_append,List.length_set,List.length_cons,List.length_nil]; try omega; done))) only [get_push_at,get_push_eq,set_push,get_push,get_set_ne,get_set_self,len_push,len_set], hfive, hro, by simp; try omega⟩, by simp -implicitDefEqProofs (disch := (first | omega | (simp only [List.length_append,List.length_set,List.length_cons,List.length_nil]; try omega; done))) only [get_push_at,get_push_eq,set_push,get_push,get_set_ne,get_set_self,len_push,len_set]⟩
    rw [hfa]
    simp -implicitDefEqProofs (disch := (first | omega | (simp only [List.length_append,List.length_set,List.length_cons,List.length_nil]; try omega; done))) only [get_push_at,get_push_eq,set_push,get_push,get_set_ne,get_set_self,len_push,len_set]

theorem aj_err {e : Env} {ts : List (List V)} {H : Heap} {er j : Nat} (hne : er ≠ 0) (e2 : e 2 = .cell 0 0 0) (e3 : e 3 = .cell 1 0 0) (e4 : e 4 = .cell 2 0 0) (hJ : AJ (Strp Go.Proofs.Try.prog r5_0 r5_1) e ts H) :
    Yld Go.Proofs.Try.prog 4 [.agg (tokC 0 [] j nilV nilV), .int .i64 (er : Nat)] H fun r H' => r = .bool false ∧ AE (Strp Go.Proofs.Try.prog r5_0 r5_1) e er j H' := by
  obtain ⟨h1, ⟨y0, g0⟩, ⟨y1, g1⟩, ⟨y2, g2⟩, ⟨v, h3, h4⟩, h6, h7, h8, h9⟩ := hJ
  refine yld_go mix h6 rfl fun e₀ he₀ => ?_
  have f2 : e₀ 2 = .cell 0 0 0 := by rw [he₀]; simp [setL, Env.set, e2]
  have f3 : e₀ 3 = .cell 1 0 0 := by rw [he₀]; simp [setL, Env.set, e3]
  have f4 : e₀ 4 = .cell 2 0 0 := by rw [he₀]; simp [setL, Env.set, e4]
  have f26 : e₀ 26 = .agg (tokC 0 [] j nilV nilV) := by rw [he₀]; simp [setL, Env.set]
  have f27 : e₀ 27 = .int .i64 (er : Nat) := by rw [he₀]; simp [setL, Env.set]
  clear he₀
  generalize hS : Strp Go.Proofs.Try.prog r5_0 r5_1 = S at *
  have hap : ∀ n : Nat, 6 ≤ n → apart (.cell n 0 2) [.cell 0 0 0, .cell 1 0 0, .cell 2 0 0] = true := by
    intro n hn
    simp only [apart,List.all_cons,List.all_nil,Bool.and_true,Bool.and_eq_true,bne_iff_ne,ne_eq]
    omega
  have hap' := hap H.length h1
  simp only [r5_0, oQ]
  simp -implicitDefEqProofs (disch := (first | omega | (simp only [List.length_append,List.length_set,List.length_cons,List.length_nil]; try omega; done))) only [↓ZD,ZP,ZL,cnd_t,cnd_f,↓reduceIte,Env.put,stepO,lenV,binV,binInt,unV,loadV,sliceV,boundOf,convV,slstrV,if_pos,if_neg,Int.reduceToNat,Nat.reducePow,V.cells,V.isCell,V.boxable,Nat.reduceEqDiff,reduceCtorEq,reduceIte,ite_self,enterEnv,f2,f3,f4,f26,f27,tokC,nilV,fillL,evParts,splice,List.take_zero,List.take_succ_cons,List.drop_succ_cons,List.drop_zero,List.drop_nil]
  refine ⟨none, h6, ?_⟩
  simp only [r5_1, oQ]
  simp -implicitDefEqProofs (disch := (first | omega | (simp only [List.length_append,List.length_set,List.length_cons,List.length_nil]; try omega; done))) only [↓ZD,ZP,ZL,cnd_t,cnd_f,↓reduceIte,Env.put,stepO,lenV,binV,binInt,unV,loadV,sliceV,boundOf,convV,slstrV,if_pos,if_neg,Int.reduceToNat,Nat.reducePow,V.cells,V.isCell,V.boxable,Nat.reduceEqDiff,reduceCtorEq,reduceIte,ite_self,enterEnv,f2,f3,f4,f26,f27,fillL,evParts,splice,List.take_zero,List.take_succ_cons,List.drop_succ_cons,List.drop_zero,List.drop_nil,g0,g1,g2,hap']
  refine ⟨⟨.busy, none, by simp -implicitDefEqProofs (disch := (first | omega | (simp only [List.length_append,List.length_set,List.length_cons,List.length_nil]; try omega; done))) only [get_push_at,get_push_eq,set_push,get_push,get_set_ne,get_set_self,len_push,len_set]⟩, rfl, by simp -implicitDefEqProofs (disch := (first | omega | (simp only [List.length_append,List.length_set,List.length_cons,List.length_nil]; try omega; done))) only [get_push_at,get_push_eq,set_push,get_push,get_set_ne,get_set_self,len_push,len_set], by simp -implicitDefEqProofs (disch := (first | omega | (simp only [List.length_append,List.length_set,List.length_cons,List.length_nil]; try omega; done))) only [get_push_at,get_push_eq,set_push,get_push,get_set_ne,get_set_self,len_push,len_set], by simp -implicitDefEqProofs (disch := (first | omega | (simp only [List.length_append,List.length_set,List.length_cons,List.length_nil]; try omega; done))) only [get_push_at,get_push_eq,set_push,get_push,get_set_ne,get_set_self,len_push,len_set], by simp -implicitDefEqProofs (disch := (first | omega | (simp only [List.length_append,List.length_set,List.length_cons,List.length_nil]; try omega; done))) only [get_push_at,get_push_eq,set_push,get_push,get_set_ne,get_set_self,len_push,len_set]⟩

theorem decL_ok (s : List UInt8) : charOK (decL s).1 := by
  have hv : ∀ c : Nat, Utf8.valid (c : Int) = true → charOK c := by
    intro c h
    unfold Utf8.valid at h
    unfold charOK
    simp at h
    omega
  have he : charOK Utf8.runeError := by unfold charOK Utf8.runeError; omega
  have hb : ∀ k, (s.getD k 0).toNat < 256 := fun k => UInt8.toNat_lt _
  unfold decL
  simp only
  split
  · rename_i h; unfold charOK; simp only; omega
  split
  · split
    · have := hb 0; have := hb 1
      unfold charOK; simp only; omega
    · exact he
  split
  · split
    · rename_i h
      simp only [Bool.and_eq_true] at h
      exact hv _ h.2
    · exact he
  split
  · split
    · rename_i h
      simp only [Bool.and_eq_true] at h
      exact hv _ h.2
    · exact he
  · exact he

theorem rn_ok : ∀ (n : Nat) (s : List UInt8), ∀ c ∈ runesL n s, charOK c := by
  intro n
  induction n with
  | zero => intro s c hc; simp [runesL] at hc
  | succ n ih =>
    intro s c hc
    cases s with
    | nil => simp [runesL] at hc
    | cons b r =>
      simp only [runesL,List.mem_cons] at hc
      rcases hc with rfl | hc
      · exact decL_ok _
      · exact ih _ c hc

theorem good5 (s : List UInt8) : Good Go.Proofs.Try.prog 5 [.str s] (allR s) := by
  refine good_go mix s5 (Nat.le_of_ble_eq_true rfl) fun e he => ?_
  have e0 : e 0 = .str s := he 0
  clear he
  simp only [c5,b5, oQ]
  rw [allR]
  by_cases hlong : 1024 < s.length
  · rw [if_pos hlong]
    simp -implicitDefEqProofs (disch := omega) only [↓ZD,ZP,cnd_t,cnd_f,↓reduceIte,Env.put,stepO,lenV,binV,binInt,unV,loadV,sliceV,boundOf,convV,slstrV,if_pos,if_neg,Int.reduceToNat,Nat.reducePow,V.cells,V.isCell,V.boxable,Nat.reduceEqDiff,reduceCtorEq,reduceIte,ite_self,enterEnv,e0,fillL,evParts,splice,List.take_zero,List.take_succ_cons,List.drop_succ_cons,List.drop_zero,List.drop_nil]
    exact gives_eq rfl rfl
  rw [if_neg hlong]
  have hs : s.length ≤ 1100000 := by omega
  have hrl := rn_len s
  have h13 := good13 s hs
  rw [runesR] at h13
  simp -implicitDefEqProofs (disch := omega) only [↓ZD,ZP,cnd_t,cnd_f,↓reduceIte,Env.put,stepO,lenV,binV,binInt,unV,loadV,sliceV,boundOf,convV,slstrV,if_pos,if_neg,Int.reduceToNat,Nat.reducePow,V.cells,V.isCell,V.boxable,Nat.reduceEqDiff,reduceCtorEq,reduceIte,ite_self,enterEnv,e0,fillL,evParts,splice,List.take_zero,List.take_succ_cons,List.drop_succ_cons,List.drop_zero,List.drop_nil]
  cases hb : bad s with
  | some i =>
    rw [hb] at h13
    simp only [rsl,rl,List.map_nil] at h13
    refine calP_ro rfl h13 rfl ?_
    simp -implicitDefEqProofs (disch := omega) only [↓ZD,ZP,cnd_t,cnd_f,↓reduceIte,Env.put,stepO,lenV,binV,binInt,unV,loadV,sliceV,boundOf,convV,slstrV,if_pos,if_neg,Int.reduceToNat,Nat.reducePow,V.cells,V.isCell,V.boxable,Nat.reduceEqDiff,reduceCtorEq,reduceIte,ite_self,enterEnv,e0,fillL,evParts,splice,List.take_zero,List.take_succ_cons,List.drop_succ_cons,List.drop_zero,List.drop_nil]
    exact gives_eq rfl rfl
  | none =>
    rw [hb] at h13
    simp only at h13
    refine calP_ro rfl h13 (by simp [V.ro, roL, rsl, rl_ro]) ?_
    simp -implicitDefEqProofs (disch := omega) only [↓ZD,ZP,cnd_t,cnd_f,↓reduceIte,Env.put,stepO,lenV,binV,binInt,unV,loadV,sliceV,boundOf,convV,slstrV,if_pos,if_neg,Int.reduceToNat,Nat.reducePow,V.cells,V.isCell,V.boxable,Nat.reduceEqDiff,reduceCtorEq,reduceIte,ite_self,enterEnv,e0,fillL,evParts,splice,List.take_zero,List.take_succ_cons,List.drop_succ_cons,List.drop_zero,List.drop_nil,rsl]
    have h14 := good14 (rn s)
    refine calP_ro (by simp [V.ro, roL, rl_ro]) h14 (by simp [V.ro, roL, rsl, rl_ro]) ?_
    simp -implicitDefEqProofs (disch := omega) only [↓ZD,ZP,cnd_t,cnd_f,↓reduceIte,Env.put,stepO,lenV,binV,binInt,unV,loadV,sliceV,boundOf,convV,slstrV,if_pos,if_neg,Int.reduceToNat,Nat.reducePow,V.cells,V.isCell,V.boxable,Nat.reduceEqDiff,reduceCtorEq,reduceIte,ite_self,enterEnv,e0,fillL,evParts,splice,List.take_zero,List.take_succ_cons,List.drop_succ_cons,List.drop_zero,List.drop_nil,Nat.reduceAdd]
    refine rng_env fun e' he' => ?_
    have f2 : e' 2 = .cell 0 0 0 := by rw [he']; simp [Env.set]
    have f3 : e' 3 = .cell 1 0 0 := by rw [he']; simp [Env.set]
    have f4 : e' 4 = .cell 2 0 0 := by rw [he']; simp [Env.set]
    have f8 : e' 8 = .cell 3 0 0 := by rw [he']; simp [Env.set]
    clear he'
    refine rng_heap (call27 (rn s) 4 _ _ (AJ (Strp Go.Proofs.Try.prog r5_0 r5_1) e') (AE (Strp Go.Proofs.Try.prog r5_0 r5_1) e') (by omega) (rn_ok _ _) ?_ ?_ ?_ ?_ ?_ ?_)
    · exact ⟨by simp, ⟨_, rfl⟩, ⟨_, rfl⟩, ⟨_, rfl⟩, ⟨_, rfl, .inl ⟨rfl, rfl⟩⟩, rfl, (fun t ht => by simp at ht), rfl, by simp⟩
    · intro ts H x T hJ
      exact aj_set hJ
    · intro ts H i kind text j x1 l1 n1 x2 l2 n2 hr1 hr2 hlen hJ hit
      refine yld_mono (aj_round f2 f3 f4 f8 hJ hr1 hr2 (by omega)) ?_
      rintro r H' ⟨h1, h2, h3⟩
      exact ⟨h1, h2, h3.trans hit⟩
    · intro ts H er j hne hJ
      exact aj_err hne f2 f3 f4 hJ
    · intro ts H hlex hJ
      rw [hlex]
      obtain ⟨h1, ⟨y0, g0⟩, ⟨y1, g1⟩, ⟨y2, g2⟩, ⟨v, h3, h4⟩, h6, h7, h8, h9⟩ := hJ
      refine after_n h6 (by decide) ?_
      generalize Strp Go.Proofs.Try.prog r5_0 r5_1 = S at *
      rcases h4 with ⟨rfl, rfl⟩ | ⟨b, g, rfl, hb, h4⟩
      · simp -implicitDefEqProofs (disch := (first | omega | (simp only [List.length_append,List.length_set,List.length_cons,List.length_nil]; try omega; done))) only [↓ZD,ZP,ZL,cnd_t,cnd_f,↓reduceIte,Env.put,stepO,lenV,binV,binInt,unV,loadV,sliceV,boundOf,convV,slstrV,if_pos,if_neg,Int.reduceToNat,Nat.reducePow,V.cells,V.isCell,V.boxable,Nat.reduceEqDiff,reduceCtorEq,reduceIte,ite_self,enterEnv,f2,f3,f4,f8,g0,g1,g2,h3,fillL,evParts,splice,List.take_zero,List.take_succ_cons,List.drop_succ_cons,List.drop_zero,List.drop_nil]
        exact gives_eq rfl rfl
      · have hbl := getElem?_lt h4
        have hfl := flat_len ts h7
        have hft : ts.flatten.take (ts.length * 5) = ts.flatten := by rw [← hfl, List.take_length]
        simp -implicitDefEqProofs (disch := (first | omega | (simp only [List.length_append,List.length_set,List.length_cons,List.length_nil]; try omega; done))) only [↓ZD,ZP,ZL,cnd_t,cnd_f,↓reduceIte,Env.put,stepO,lenV,binV,binInt,unV,loadV,sliceV,boundOf,convV,slstrV,if_pos,if_neg,Int.reduceToNat,Nat.reducePow,V.cells,V.isCell,V.boxable,Nat.reduceEqDiff,reduceCtorEq,reduceIte,ite_self,enterEnv,f2,f3,f4,f8,g0,g1,g2,h3,fillL,evParts,splice,List.take_zero,List.take_succ_cons,List.drop_succ_cons,List.drop_zero,List.drop_nil]
        refine gives_lend 1 (v' := .tup [.sl false ts.flatten ts.length, .int .i64 0, .int .i64 0]) ?_ (by simp [V.ro, roL, h8]) rfl
        simp only [lend1,borL,bor]
        simp -implicitDefEqProofs (disch := (first | omega | (simp only [List.length_append,List.length_set,List.length_cons,List.length_nil]; try omega; done))) only [get_push_at,get_push_eq,set_push,get_push,get_set_ne,get_set_self,len_push,len_set,h4,if_true,List.drop_zero,hft]
    · intro er j H hlex hJ
      rw [hlex]
      obtain ⟨g0, g1, g2, h6⟩ := hJ
      have hl := getElem?_lt h6
      refine after_r h6 (by decide) ?_
      generalize Strp Go.Proofs.Try.prog r5_0 r5_1 = S at *
      simp -implicitDefEqProofs (disch := (first | omega | (simp only [List.length_append,List.length_set,List.length_cons,List.length_nil]; try omega; done))) only [↓ZD,ZP,ZL,cnd_t,cnd_f,↓reduceIte,Env.put,stepO,lenV,binV,binInt,unV,loadV,sliceV,boundOf,convV,slstrV,if_pos,if_neg,Int.reduceToNat,Nat.reducePow,V.cells,V.isCell,V.boxable,Nat.reduceEqDiff,reduceCtorEq,reduceIte,ite_self,enterEnv,f2,f3,f4,f8,g0,g1,g2,fillL,evParts,splice,List.take_zero,List.take_succ_cons,List.drop_succ_cons,List.drop_zero,List.drop_nil]
      exact gives_eq rfl rfl
end Fe
open Go Go.Proofs
namespace Fe
/-- An item that holds no arrays. -/
def SItem (it : List V) : Prop := ∃ (k c : Int) (b ea eb ec : Bool) (x y : List Nat), x.length ≤ 1100000 ∧ y.length ≤ 1100000 ∧ it = [.int .u8 k, .bool b, nsl ea x, nsl eb y, .int .i32 c, .sl ec [] 0]

theorem SItem.len {it : List V} (h : SItem it) : it.length = 6 := by
  obtain ⟨_, _, _, _, _, _, _, _, _, _, rfl⟩ := h; rfl

end Fe
open Go Go.Proofs
namespace Fe
def b6 : C :=
 (.seq
 (.region false [
 oQ 0 (.mov (.c (.bool false)))])
 (.seq
 (.region false [
 ⟨some 5, .call false (.c (.fn 5 [] [])) [.c (.str [65, 226, 134, 144, 49, 46, 53, 32, 39, 105, 116, 39, 39, 115, 39, 32, 226, 141, 157, 32, 120])], none⟩,
 oQ 4 (.mov (.t 5)),
 oQ 6 (.extract (.t 4) 0),
 oQ 7 (.extract (.t 4) 1),
 oQ 8 (.extract (.t 4) 2),
 oQ 1 (.mov (.t 6)),
 oQ 2 (.mov (.t 7)),
 oQ 3 (.mov (.t 8))])
 (.seq
 (.region false [
 oQ 9 (.mov (.t 2)),
 oQ 10 (.bin 0 .eql (.t 9) (.c (.int .i64 0))),
 oQ 11 (.mov (.t 10)),
 ⟨some 12, .op (.mov (.t 1)), some (11, true)⟩,
 ⟨some 13, .op (.len false (.t 12)), some (11, true)⟩,
 ⟨some 14, .op (.bin 0 .eql (.t 13) (.c (.int .i64 5))), some (11, true)⟩,
 oQ 15 (.pick (.t 11) (.t 14) (.c (.bool false))),
 oQ 16 (.mov (.t 15)),
 ⟨some 17, .op (.mov (.t 1)), some (16, true)⟩,
 ⟨some 18, .op (.iaddr 5 (.t 17) (.c (.int .i64 0))), some (16, true)⟩,
 ⟨some 19, .op (.faddr 0 (.t 18)), some (16, true)⟩,
 ⟨some 20, .op (.load false 1 (.t 19)), some (16, true)⟩,
 ⟨some 21, .op (.bin 0 .eql (.t 20) (.c (.int .u8 3))), some (16, true)⟩,
 oQ 22 (.pick (.t 16) (.t 21) (.c (.bool false))),
 oQ 23 (.mov (.t 22)),
 ⟨some 24, .op (.mov (.t 1)), some (23, true)⟩,
 ⟨some 25, .op (.iaddr 5 (.t 24) (.c (.int .i64 1))), some (23, true)⟩,
 ⟨some 26, .op (.faddr 0 (.t 25)), some (23, true)⟩,
 ⟨some 27, .op (.load false 1 (.t 26)), some (23, true)⟩,
 ⟨some 28, .op (.bin 0 .eql (.t 27) (.c (.int .u8 6))), some (23, true)⟩,
 oQ 29 (.pick (.t 23) (.t 28) (.c (.bool false))),
 oQ 30 (.mov (.t 29)),
 ⟨some 31, .op (.mov (.t 1)), some (30, true)⟩,
 ⟨some 32, .op (.iaddr 5 (.t 31) (.c (.int .i64 2))), some (30, true)⟩,
 ⟨some 33, .op (.faddr 0 (.t 32)), some (30, true)⟩,
 ⟨some 34, .op (.load false 1 (.t 33)), some (30, true)⟩,
 ⟨some 35, .op (.bin 0 .eql (.t 34) (.c (.int .u8 1))), some (30, true)⟩,
 oQ 36 (.pick (.t 30) (.t 35) (.c (.bool false))),
 oQ 37 (.mov (.t 36)),
 ⟨some 38, .op (.mov (.t 1)), some (37, true)⟩,
 ⟨some 39, .op (.iaddr 5 (.t 38) (.c (.int .i64 3))), some (37, true)⟩,
 ⟨some 40, .op (.faddr 0 (.t 39)), some (37, true)⟩,
 ⟨some 41, .op (.load false 1 (.t 40)), some (37, true)⟩,
 ⟨some 42, .op (.bin 0 .eql (.t 41) (.c (.int .u8 2))), some (37, true)⟩,
 oQ 43 (.pick (.t 37) (.t 42) (.c (.bool false))),
 oQ 44 (.mov (.t 43)),
 ⟨some 45, .op (.mov (.t 1)), some (44, true)⟩,
 ⟨some 46, .op (.iaddr 5 (.t 45) (.c (.int .i64 3))), some (44, true)⟩,
 ⟨some 47, .op (.faddr 2 (.t 46)), some (44, true)⟩,
 ⟨some 48, .op (.load false 1 (.t 47)), some (44, true)⟩,
 ⟨some 49, .op (.bin 0 .eql (.t 48) (.c (.int .i64 6))), some (44, true)⟩,
 oQ 50 (.pick (.t 44) (.t 49) (.c (.bool false))),
 oQ 51 (.mov (.t 50)),
 ⟨some 52, .op (.mov (.t 1)), some (51, true)⟩,
 ⟨some 53, .op (.iaddr 5 (.t 52) (.c (.int .i64 4))), some (51, true)⟩,
 ⟨some 54, .op (.faddr 0 (.t 53)), some (51, true)⟩,
 ⟨some 55, .op (.load false 1 (.t 54)), some (51, true)⟩,
 ⟨some 56, .op (.bin 0 .eql (.t 55) (.c (.int .u8 0))), some (51, true)⟩,
 oQ 57 (.pick (.t 51) (.t 56) (.c (.bool false))),
 oQ 0 (.mov (.t 57))])
 .ret)))
def c6 : CF := ⟨58, 0, [.mov (.t 0)], b6⟩
theorem lim_one_of {n : Nat} (h0 : n ≠ 0) (h1 : n < 4294967296) : lim n = [n] := by
  rw [lim_pos h0, Nat.mod_eq_of_lt h1, Nat.div_eq_of_lt h1, lim_zero]

theorem lex_step {n i c : Nat} {l r : List Nat} {kind k : Nat} {a1 a2 : V} (hl : l = c :: r) (hb : blankC c = false) (hc : c ≠ 9053) (ht : tokenS l = .ok kind k a1 a2) :
    lexL (n + 1) i l = match lexL n (i + k) (l.drop k) with
      | .error x => .error x
      | .ok ts => .ok (tokC kind (encs (l.take k)) i a1 a2 :: ts) := by
  subst hl
  rw [lexL, List.dropWhile_cons, hb, List.takeWhile_cons, hb]
  simp only [Bool.false_eq_true,if_false,if_neg hc,ht,List.length_nil,Nat.add_zero]
  rfl
end Fe
