/-
  Contract: blanks cut off; contract: Split. No condition.
-/
import Derived.Test.YtjgjfabmakkooaaGreatDoorFgL
set_option linter.unusedSimpArgs false
set_option linter.unusedVariables false
open Go Go.Proofs
namespace Fe
/-- A set of bytes, as Go's 256 bools. -/
def asc (p : Nat → Bool) : List V := (List.range 256).map fun i => .bool (p i)
def b219 : C :=
 (.seq
 (.region false [
 oQ 4 (.mov (.c (.str [])))])
 (.seq
 (.seq
 (.region false [
 oQ 7 (.mov (.t 0)),
 oQ 8 (.bin 0 .eql (.t 7) (.c (.str []))),
 oQ 9 (.mov (.t 8)),
 ⟨some 10, .op (.mov (.t 1)), some (9, false)⟩,
 ⟨some 11, .op (.bin 0 .eql (.t 10) (.c (.str []))), some (9, false)⟩,
 oQ 12 (.pick (.t 9) (.c (.bool true)) (.t 11))])
 (.cond (.t 12)
 (.seq
 (.region false [
 oQ 13 (.mov (.t 0)),
 oQ 4 (.mov (.t 13))])
 .ret)
 .skip))
 (.seq
 (.seq
 (.region false [
 oQ 14 (.mov (.t 1)),
 oQ 15 (.len true (.t 14)),
 oQ 16 (.bin 0 .eql (.t 15) (.c (.int .i64 1))),
 oQ 17 (.mov (.t 16)),
 ⟨some 18, .op (.mov (.t 1)), some (17, true)⟩,
 ⟨some 19, .op (.index (.t 18) (.c (.int .i64 0))), some (17, true)⟩,
 ⟨some 20, .op (.bin 0 .lss (.t 19) (.c (.int .u8 128))), some (17, true)⟩,
 oQ 21 (.pick (.t 17) (.t 20) (.c (.bool false)))])
 (.cond (.t 21)
 (.seq
 (.region true [
 oQ 22 (.mov (.t 0)),
 oQ 23 (.mov (.t 1)),
 oQ 24 (.index (.t 23) (.c (.int .i64 0))),
 ⟨some 25, .call true (.c (.fn 53 [] [])) [.t 22, .t 24], none⟩,
 oQ 26 (.mov (.t 1)),
 oQ 27 (.index (.t 26) (.c (.int .i64 0))),
 ⟨some 28, .call false (.c (.fn 52 [] [])) [.t 25, .t 27], none⟩,
 oQ 4 (.mov (.t 28))])
 .ret)
 .skip))
 (.seq
 (.seq
 (.region false [
 oQ 30 (.mov (.t 1)),
 ⟨some 31, .call false (.c (.fn 54 [] [])) [.t 30], none⟩,
 oQ 29 (.mov (.t 31)),
 oQ 32 (.extract (.t 29) 0),
 oQ 33 (.extract (.t 29) 1),
 oQ 5 (.box (.c (.agg (asc fun _ => false)))),
 ⟨none, .op (.store 256 (.t 5) (.t 32)), none⟩,
 oQ 6 (.mov (.t 33))])
 (.seq
 (.region false [
 oQ 34 (.mov (.t 6))])
 (.cond (.t 34)
 (.seq
 (.region false [
 oQ 35 (.mov (.t 0)),
 ⟨some 36, .call false (.c (.fn 56 [] [])) [.t 35, .t 5], none⟩,
 ⟨some 37, .call false (.c (.fn 55 [] [])) [.t 36, .t 5], none⟩,
 oQ 4 (.mov (.t 37))])
 .ret)
 .skip)))
 (.seq
 (.region false [
 oQ 38 (.mov (.t 0)),
 oQ 39 (.mov (.t 1)),
 ⟨some 40, .call false (.c (.fn 58 [] [])) [.t 38, .t 39], none⟩,
 oQ 41 (.mov (.t 1)),
 ⟨some 42, .call false (.c (.fn 57 [] [])) [.t 40, .t 41], none⟩,
 oQ 4 (.mov (.t 42))])
 .ret)))))
def c219 : CF := ⟨43, 2, [.mov (.t 4)], b219⟩
def b225 : C :=
 (.seq
 (.region false [
 oQ 2 (.box (.c (.agg (asc fun _ => false)))),
 oQ 3 (.mov (.c (.bool false)))])
 (.seq
 (.seq
 (.region false [
 oQ 4 (.mov (.c (.int .i64 0)))])
 (.block 0
 (.loop
 (.seq
 (.seq
 (.region false [
 oQ 6 (.mov (.t 4)),
 oQ 7 (.mov (.t 0)),
 oQ 8 (.len true (.t 7)),
 oQ 9 (.bin 0 .lss (.t 6) (.t 8))])
 (.cond (.t 9)
 .skip
 (.exit 0)))
 (.seq
 (.block 1
 (.seq
 (.region false [
 oQ 12 (.mov (.t 0)),
 oQ 13 (.mov (.t 4)),
 oQ 14 (.index (.t 12) (.t 13)),
 oQ 5 (.mov (.t 14))])
 (.seq
 (.seq
 (.region false [
 oQ 15 (.mov (.t 5)),
 oQ 16 (.bin 0 .geq (.t 15) (.c (.int .u8 128)))])
 (.cond (.t 16)
 (.seq
 (.region false [
 oQ 17 (.load true 256 (.t 2)),
 ⟨none, .op (.store 256 (.t 2) (.t 17)), none⟩,
 oQ 3 (.mov (.c (.bool false)))])
 .ret)
 .skip))
 (.region false [
 oQ 18 (.mov (.t 5)),
 oQ 19 (.aaddr 1 256 (.t 2) (.t 18)),
 ⟨none, .op (.store 1 (.t 19) (.c (.bool true))), none⟩]))))
 (.region false [
 oQ 10 (.mov (.t 4)),
 oQ 11 (.bin 0 .add (.t 10) (.c (.int .i64 1))),
 oQ 4 (.mov (.t 11))]))))))
 (.seq
 (.region false [
 oQ 20 (.load true 256 (.t 2)),
 ⟨none, .op (.store 256 (.t 2) (.t 20)), none⟩,
 oQ 3 (.mov (.c (.bool true)))])
 .ret)))
def c225 : CF := ⟨21, 1, [.load true 256 (.t 2), .mov (.t 3)], b225⟩
def b226 : C :=
 (.seq
 (.region false [
 oQ 4 (.mov (.c (.str [])))])
 (.seq
 (.block 0
 (.loop
 (.seq
 (.seq
 (.region false [
 oQ 5 (.mov (.t 0)),
 oQ 6 (.len true (.t 5)),
 oQ 7 (.bin 0 .gtr (.t 6) (.c (.int .i64 0)))])
 (.cond (.t 7)
 .skip
 (.exit 0)))
 (.block 1
 (.seq
 (.seq
 (.region false [
 oQ 8 (.mov (.t 1)),
 oQ 9 (.mov (.t 0)),
 oQ 10 (.index (.t 9) (.c (.int .i64 0))),
 ⟨some 11, .call false (.c (.fn 93 [] [])) [.t 8, .t 10], none⟩,
 oQ 12 (.un .not (.t 11))])
 (.cond (.t 12)
 (.exit 0)
 .skip))
 (.region false [
 oQ 13 (.mov (.t 0)),
 oQ 14 (.slstr (.t 13) (some (.c (.int .i64 1))) none),
 oQ 0 (.mov (.t 14))]))))))
 (.seq
 (.region false [
 oQ 15 (.mov (.t 0)),
 oQ 4 (.mov (.t 15))])
 .ret)))
def c226 : CF := ⟨16, 2, [.mov (.t 4)], b226⟩
def b227 : C :=
 (.seq
 (.region false [
 oQ 4 (.mov (.c (.str [])))])
 (.seq
 (.block 0
 (.loop
 (.seq
 (.seq
 (.region false [
 oQ 5 (.mov (.t 0)),
 oQ 6 (.len true (.t 5)),
 oQ 7 (.bin 0 .gtr (.t 6) (.c (.int .i64 0)))])
 (.cond (.t 7)
 .skip
 (.exit 0)))
 (.block 1
 (.seq
 (.seq
 (.region false [
 oQ 8 (.mov (.t 1)),
 oQ 9 (.mov (.t 0)),
 oQ 10 (.mov (.t 0)),
 oQ 11 (.len true (.t 10)),
 oQ 12 (.bin 0 .sub (.t 11) (.c (.int .i64 1))),
 oQ 13 (.index (.t 9) (.t 12)),
 ⟨some 14, .call false (.c (.fn 93 [] [])) [.t 8, .t 13], none⟩,
 oQ 15 (.un .not (.t 14))])
 (.cond (.t 15)
 (.exit 0)
 .skip))
 (.region false [
 oQ 16 (.mov (.t 0)),
 oQ 17 (.mov (.t 0)),
 oQ 18 (.len true (.t 17)),
 oQ 19 (.bin 0 .sub (.t 18) (.c (.int .i64 1))),
 oQ 20 (.slstr (.t 16) none (some (.t 19))),
 oQ 0 (.mov (.t 20))]))))))
 (.seq
 (.region false [
 oQ 21 (.mov (.t 0)),
 oQ 4 (.mov (.t 21))])
 .ret)))
def c227 : CF := ⟨22, 2, [.mov (.t 4)], b227⟩
def b234 : C :=
 (.seq
 (.region false [
 oQ 4 (.mov (.c (.bool false)))])
 (.seq
 (.region false [
 oQ 5 (.mov (.t 0)),
 oQ 6 (.mov (.t 1)),
 oQ 7 (.nilck (.t 5)),
 oQ 8 (.aaddr 1 256 (.t 7) (.t 6)),
 oQ 9 (.load false 1 (.t 8)),
 oQ 4 (.mov (.t 9))])
 .ret))
def c234 : CF := ⟨10, 2, [.mov (.t 4)], b234⟩
theorem s219 : stripF Go.Proofs.Tryz.prog 28 = some c219 := by kernel_rfl
theorem s225 : stripF Go.Proofs.Tryz.prog 54 = some c225 := by kernel_rfl
theorem s226 : stripF Go.Proofs.Tryz.prog 55 = some c226 := by kernel_rfl
theorem s227 : stripF Go.Proofs.Tryz.prog 56 = some c227 := by kernel_rfl
theorem s234 : stripF Go.Proofs.Tryz.prog 93 = some c234 := by kernel_rfl

theorem asc_len (p : Nat → Bool) : (asc p).length = 256 := by simp [asc]
theorem asc_at (p : Nat → Bool) {i : Nat} (h : i < 256) : (asc p)[i]? = some (.bool (p i)) := by simp [asc, h]
theorem asc_ro (p : Nat → Bool) : roL (asc p) = true := roL_of fun v hv => by
  obtain ⟨i, _, rfl⟩ := List.mem_map.1 hv
  rfl
theorem asc_cell (p : Nat → Bool) : (asc p).all V.isCell = true := by
  rw [List.all_eq_true]
  intro v hv
  obtain ⟨i, _, rfl⟩ := List.mem_map.1 hv
  rfl
theorem asc_weak (p : Nat → Bool) : weakL (asc p) = asc p := by
  apply List.ext_getElem (weakL_len _)
  intro i h1 h2
  rw [weakL_get _ i h1 h2]
  simp only [asc,List.getElem_map]
  rfl
theorem asc_take (p : Nat → Bool) : (asc p).take 256 = asc p := by rw [← asc_len p, List.take_length]
theorem asc_put (p : Nat → Bool) {i : Nat} (h : i < 256) : splice (asc p) i [.bool true] = asc fun j => j == i || p j := by
  apply List.ext_getElem?
  intro j
  have hl : (asc p).length = 256 := asc_len p
  rw [splice]
  rcases Nat.lt_trichotomy j i with hj | hj | hj
  · rw [List.append_assoc, List.getElem?_append_left (by rw [List.length_take]; omega), List.getElem?_take_of_lt hj, asc_at p (by omega), asc_at _ (by omega)]
    have : (j == i) = false := by simp; omega
    rw [this, Bool.false_or]
  · subst hj
    rw [List.append_assoc, List.getElem?_append_right (by rw [List.length_take]; omega), List.length_take, hl, Nat.min_eq_left (by omega), Nat.sub_self, asc_at _ h]
    simp
  · rw [List.getElem?_append_right (by rw [List.length_append, List.length_take]; simp; omega), List.length_append, List.length_take, hl, Nat.min_eq_left (by omega), List.getElem?_drop]
    have e : i + [V.bool true].length + (j - (i + [V.bool true].length)) = j := by simp; omega
    rw [e]
    rcases Nat.lt_or_ge j 256 with h2 | h2
    · rw [asc_at p h2, asc_at _ h2]
      have : (j == i) = false := by simp; omega
      rw [this, Bool.false_or]
    · rw [List.getElem?_eq_none (by omega), List.getElem?_eq_none (by rw [asc_len]; omega)]
theorem asc_all (p q : Nat → Bool) : splice (asc p) 0 (asc q) = asc q := by
  rw [splice, List.take_zero, List.nil_append, Nat.zero_add, asc_len, List.drop_of_length_le (by rw [asc_len]; omega), List.append_nil]

def inB (s : List UInt8) (j : Nat) : Bool := decide (j ∈ s.map UInt8.toNat)
theorem inB_snoc {s : List UInt8} {i : Nat} {c : UInt8} (h : s[i]? = some c) : (fun j => j == c.toNat || inB (s.take i) j) = inB (s.take (i + 1)) := by
  funext j
  have hlt := getElem?_lt h
  have e : s.take (i + 1) = s.take i ++ [c] := by
    rw [List.take_add_one, h]; rfl
  rw [inB, inB, e, List.map_append]
  by_cases hj : j = c.toNat
  · simp [hj]
  · have hj2 : (j == c.toNat) = false := by simpa using hj
    rw [hj2, Bool.false_or]
    by_cases h2 : j ∈ (s.take i).map UInt8.toNat
    · rw [decide_eq_true h2, decide_eq_true (List.mem_append_left _ h2)]
    · rw [decide_eq_false h2, decide_eq_false (by
        rw [List.mem_append]
        rintro (h | h)
        · exact h2 h
        · exact hj (by simpa using h))]

theorem good225 (s : List UInt8) (hs : s.length ≤ 1000000) (ha : ∀ c ∈ s, c.toNat < 128) : Good Go.Proofs.Tryz.prog 54 [.str s] (.tup [.agg (asc (inB s)), .bool true]) := by
  refine good_go mix s225 (Nat.le_of_ble_eq_true rfl) fun e he => ?_
  have e0 : e 0 = .str s := he 0
  clear he
  simp only [c225,b225, oQ]
  simp -implicitDefEqProofs (disch := omega) only [↓ZD,ZP,cnd_t,cnd_f,↓reduceIte,Env.put,stepO,lenV,binV,binInt,unV,loadV,sliceV,boundOf,convV,slstrV,if_pos,if_neg,Int.reduceToNat,Nat.reducePow,V.cells,V.isCell,V.boxable,Nat.reduceEqDiff,reduceCtorEq,reduceIte,ite_self,enterEnv,e0]
  refine go_loop (fun m e H => ∃ i, i ≤ s.length ∧ m = s.length - i ∧ H = [.cells 0 0 true (asc (inB (s.take i)))] ∧ e 0 = .str s ∧ e 2 = .cell 0 0 0 ∧ e 4 = .int .i64 (i : Nat))
    s.length ⟨0, by omega, rfl, rfl, ?_, ?_, ?_⟩ ?_
  · simp [Env.set, e0]
  · simp [Env.set]
  · simp [Env.set]
  rintro m e H ⟨i, hi, rfl, rfl, e0, e2, e4⟩
  have hl : (asc (inB (s.take i))).length = 256 := asc_len _
  rcases Nat.lt_or_ge i s.length with hlt | hge
  · have hat : s[i]? = some s[i] := List.getElem?_eq_getElem hlt
    have hc := ha s[i] (List.getElem_mem hlt)
    generalize s[i] = c at hat hc
    simp -implicitDefEqProofs (disch := omega) only [↓ZD,ZP,cnd_t,cnd_f,↓reduceIte,Env.put,stepO,lenV,binV,binInt,unV,loadV,sliceV,boundOf,convV,slstrV,if_pos,if_neg,Int.reduceToNat,Nat.reducePow,V.cells,V.isCell,V.boxable,Nat.reduceEqDiff,reduceCtorEq,reduceIte,ite_self,enterEnv,e0,e2,e4,hat,hl,asc_put,inB_snoc]
    exact ⟨_, by omega, i + 1, by omega, rfl, rfl, rfl⟩
  · have hil : i = s.length := by omega
    subst hil
    have hcell := asc_cell (inB s)
    rw [List.take_length] at hl ⊢
    simp -implicitDefEqProofs (disch := omega) only [↓ZD,ZP,cnd_t,cnd_f,↓reduceIte,Env.put,stepO,lenV,binV,binInt,unV,loadV,sliceV,boundOf,convV,slstrV,if_pos,if_neg,Int.reduceToNat,Nat.reducePow,V.cells,V.isCell,V.boxable,Nat.reduceEqDiff,reduceCtorEq,reduceIte,ite_self,enterEnv,e0,e2,e4,hl,List.drop_zero,asc_take,asc_all,hcell]
    exact gives_eq (by simp [V.ro, roL, asc_ro]) (by simp only [V.weak,weakL,asc_weak])

theorem good234 (p : Nat → Bool) (c : UInt8) : Good Go.Proofs.Tryz.prog 93 [.rptr (asc p) 0, .int .u8 c.toNat] (.bool (p c.toNat)) := by
  refine good_go mix s234 (Nat.le_of_ble_eq_true rfl) fun e he => ?_
  have e0 : e 0 = .rptr (asc p) 0 := he 0
  have e1 : e 1 = .int .u8 c.toNat := he 1
  clear he
  simp only [c234,b234, oQ]
  have hc : c.toNat < 256 := c.toNat_lt
  have hat := asc_at p hc
  simp -implicitDefEqProofs (disch := omega) only [↓ZD,ZP,cnd_t,cnd_f,↓reduceIte,Env.put,stepO,lenV,binV,binInt,unV,loadV,sliceV,boundOf,convV,slstrV,if_pos,if_neg,Int.reduceToNat,Nat.reducePow,V.cells,V.isCell,V.boxable,Nat.reduceEqDiff,reduceCtorEq,reduceIte,ite_self,enterEnv,e0,e1,hat]
  exact gives_eq rfl rfl

/-- Bytes of a kind at a text's head, and at its end, left out. -/
def ltrim (p : Nat → Bool) (s : List UInt8) : List UInt8 := s.dropWhile fun c => p c.toNat
def rtrim (p : Nat → Bool) (s : List UInt8) : List UInt8 := (s.reverse.dropWhile fun c => p c.toNat).reverse
theorem ltrim_len (p : Nat → Bool) : ∀ s : List UInt8, (ltrim p s).length ≤ s.length
  | [] => by simp [ltrim]
  | c :: s => by
    have := ltrim_len p s
    simp only [ltrim,List.dropWhile_cons] at *
    split <;> simp only [List.length_cons] <;> omega
theorem rtrim_snoc (p : Nat → Bool) (s : List UInt8) (c : UInt8) : rtrim p (s ++ [c]) = if p c.toNat = true then rtrim p s else s ++ [c] := by
  simp only [rtrim,List.reverse_append,List.reverse_cons,List.reverse_nil,List.nil_append,List.cons_append,List.dropWhile_cons]
  split
  · rfl
  · simp
theorem rtrim_len (p : Nat → Bool) (s : List UInt8) : (rtrim p s).length ≤ s.length := by
  have := ltrim_len p s.reverse
  simp only [ltrim,List.length_reverse] at this
  simp only [rtrim,List.length_reverse]
  exact this

theorem good226 (p : Nat → Bool) (s : List UInt8) (hs : s.length ≤ 1000000) : Good Go.Proofs.Tryz.prog 55 [.str s, .rptr (asc p) 0] (.str (ltrim p s)) := by
  refine good_go mix s226 (Nat.le_of_ble_eq_true rfl) fun e he => ?_
  have e0 : e 0 = .str s := he 0
  have e1 : e 1 = .rptr (asc p) 0 := he 1
  clear he
  simp only [c226,b226, oQ]
  simp -implicitDefEqProofs (disch := omega) only [↓ZD,ZP,cnd_t,cnd_f,↓reduceIte,Env.put,stepO,lenV,binV,binInt,unV,loadV,sliceV,boundOf,convV,slstrV,if_pos,if_neg,Int.reduceToNat,Nat.reducePow,V.cells,V.isCell,V.boxable,Nat.reduceEqDiff,reduceCtorEq,reduceIte,ite_self,enterEnv,e0,e1]
  refine go_loop (fun m e H => ∃ t, t.length ≤ s.length ∧ m = t.length ∧ ltrim p s = ltrim p t ∧ e 0 = .str t ∧ e 1 = .rptr (asc p) 0)
    s.length ⟨s, Nat.le_refl _, rfl, rfl, ?_, ?_⟩ ?_
  · simp [Env.set, e0]
  · simp [Env.set, e1]
  rintro m e H ⟨t, ht, rfl, heq, e0, e1⟩
  cases t with
  | nil =>
    simp -implicitDefEqProofs (disch := omega) only [↓ZD,ZP,cnd_t,cnd_f,↓reduceIte,Env.put,stepO,lenV,binV,binInt,unV,loadV,sliceV,boundOf,convV,slstrV,if_pos,if_neg,Int.reduceToNat,Nat.reducePow,V.cells,V.isCell,V.boxable,Nat.reduceEqDiff,reduceCtorEq,reduceIte,ite_self,enterEnv,e0,e1]
    rw [heq]
    exact gives_eq rfl rfl
  | cons c t =>
    have hro : roL [.rptr (asc p) 0, .int .u8 (c.toNat : Nat)] = true := by simp [roL, V.ro, asc_ro]
    simp only [List.length_cons] at ht
    simp -implicitDefEqProofs (disch := omega) only [↓ZD,ZP,cnd_t,cnd_f,↓reduceIte,Env.put,stepO,lenV,binV,binInt,unV,loadV,sliceV,boundOf,convV,slstrV,if_pos,if_neg,Int.reduceToNat,Nat.reducePow,V.cells,V.isCell,V.boxable,Nat.reduceEqDiff,reduceCtorEq,reduceIte,ite_self,enterEnv,e0,e1]
    refine calP_ro hro (good234 p c) rfl ?_
    cases hp : p c.toNat with
    | false =>
      simp -implicitDefEqProofs (disch := omega) only [↓ZD,ZP,cnd_t,cnd_f,↓reduceIte,Env.put,stepO,lenV,binV,binInt,unV,loadV,sliceV,boundOf,convV,slstrV,if_pos,if_neg,Int.reduceToNat,Nat.reducePow,V.cells,V.isCell,V.boxable,Nat.reduceEqDiff,reduceCtorEq,reduceIte,ite_self,enterEnv,e0,e1]
      rw [heq, ltrim, List.dropWhile_cons, hp]
      exact gives_eq rfl rfl
    | true =>
      have h1 : ((((t.length + 1 : Nat) : Int)) - 1).toNat = t.length := by omega
      simp -implicitDefEqProofs (disch := omega) only [↓ZD,ZP,cnd_t,cnd_f,↓reduceIte,Env.put,stepO,lenV,binV,binInt,unV,loadV,sliceV,boundOf,convV,slstrV,if_pos,if_neg,Int.reduceToNat,Nat.reducePow,V.cells,V.isCell,V.boxable,Nat.reduceEqDiff,reduceCtorEq,reduceIte,ite_self,enterEnv,e0,e1,h1,List.drop_succ_cons,List.drop_zero,List.take_length]
      refine ⟨t.length, by omega, t, by omega, rfl, ?_, rfl⟩
      rw [heq, ltrim, List.dropWhile_cons, hp]
      rfl

theorem good227 (p : Nat → Bool) (s : List UInt8) (hs : s.length ≤ 1000000) : Good Go.Proofs.Tryz.prog 56 [.str s, .rptr (asc p) 0] (.str (rtrim p s)) := by
  refine good_go mix s227 (Nat.le_of_ble_eq_true rfl) fun e he => ?_
  have e0 : e 0 = .str s := he 0
  have e1 : e 1 = .rptr (asc p) 0 := he 1
  clear he
  simp only [c227,b227, oQ]
  simp -implicitDefEqProofs (disch := omega) only [↓ZD,ZP,cnd_t,cnd_f,↓reduceIte,Env.put,stepO,lenV,binV,binInt,unV,loadV,sliceV,boundOf,convV,slstrV,if_pos,if_neg,Int.reduceToNat,Nat.reducePow,V.cells,V.isCell,V.boxable,Nat.reduceEqDiff,reduceCtorEq,reduceIte,ite_self,enterEnv,e0,e1]
  refine go_loop (fun m e H => ∃ t, t.length ≤ s.length ∧ m = t.length ∧ rtrim p s = rtrim p t ∧ e 0 = .str t ∧ e 1 = .rptr (asc p) 0)
    s.length ⟨s, Nat.le_refl _, rfl, rfl, ?_, ?_⟩ ?_
  · simp [Env.set, e0]
  · simp [Env.set, e1]
  rintro m e H ⟨t, ht, rfl, heq, e0, e1⟩
  rcases List.eq_nil_or_concat t with rfl | ⟨t, c, hcc⟩
  · simp -implicitDefEqProofs (disch := omega) only [↓ZD,ZP,cnd_t,cnd_f,↓reduceIte,Env.put,stepO,lenV,binV,binInt,unV,loadV,sliceV,boundOf,convV,slstrV,if_pos,if_neg,Int.reduceToNat,Nat.reducePow,V.cells,V.isCell,V.boxable,Nat.reduceEqDiff,reduceCtorEq,reduceIte,ite_self,enterEnv,e0,e1]
    rw [heq]
    exact gives_eq rfl rfl
  · rw [List.concat_eq_append] at hcc
    subst hcc
    have hro : roL [.rptr (asc p) 0, .int .u8 (c.toNat : Nat)] = true := by simp [roL, V.ro, asc_ro]
    have hat : (t ++ [c])[t.length]? = some c := by simp
    rw [List.length_append, List.length_singleton] at ht
    have hlen : (t ++ [c]).length = t.length + 1 := by simp
    have h1 : ((t.length + 1 : Nat) : Int) - 1 = ((t.length : Nat) : Int) := by omega
    rw [rtrim_snoc] at heq
    simp -implicitDefEqProofs (disch := omega) only [↓ZD,ZP,cnd_t,cnd_f,↓reduceIte,Env.put,stepO,lenV,binV,binInt,unV,loadV,sliceV,boundOf,convV,slstrV,if_pos,if_neg,Int.reduceToNat,Nat.reducePow,V.cells,V.isCell,V.boxable,Nat.reduceEqDiff,reduceCtorEq,reduceIte,ite_self,enterEnv,e0,e1,hlen,h1,hat]
    refine calP_ro hro (good234 p c) rfl ?_
    cases hp : p c.toNat with
    | false =>
      rw [hp, if_neg (by simp)] at heq
      simp -implicitDefEqProofs (disch := omega) only [↓ZD,ZP,cnd_t,cnd_f,↓reduceIte,Env.put,stepO,lenV,binV,binInt,unV,loadV,sliceV,boundOf,convV,slstrV,if_pos,if_neg,Int.reduceToNat,Nat.reducePow,V.cells,V.isCell,V.boxable,Nat.reduceEqDiff,reduceCtorEq,reduceIte,ite_self,enterEnv,e0,e1]
      rw [heq]
      exact gives_eq rfl rfl
    | true =>
      rw [hp, if_pos rfl] at heq
      have h2 : (((t.length : Nat) : Int) - ((0 : Nat) : Int)).toNat = t.length := by omega
      have htk : (t ++ [c]).take t.length = t := by simp
      simp -implicitDefEqProofs (disch := omega) only [↓ZD,ZP,cnd_t,cnd_f,↓reduceIte,Env.put,stepO,lenV,binV,binInt,unV,loadV,sliceV,boundOf,convV,slstrV,if_pos,if_neg,Int.reduceToNat,Nat.reducePow,V.cells,V.isCell,V.boxable,Nat.reduceEqDiff,reduceCtorEq,reduceIte,ite_self,enterEnv,e0,e1,hlen,h1,h2,List.drop_zero,htk]
      exact ⟨t.length, by omega, t, by omega, rfl, heq, rfl⟩

/-- A text without blanks at both ends. -/
def blP : Nat → Bool := inB [32, 9]
def trimS (s : List UInt8) : List UInt8 := ltrim blP (rtrim blP s)
theorem trimS_len (s : List UInt8) : (trimS s).length ≤ s.length := Nat.le_trans (ltrim_len _ _) (rtrim_len _ _)

theorem good219 (s : List UInt8) (hs : s.length ≤ 1000000) : Good Go.Proofs.Tryz.prog 28 [.str s, .str [32, 9]] (.str (trimS s)) := by
  refine good_go mix s219 (Nat.le_of_ble_eq_true rfl) fun e he => ?_
  have e0 : e 0 = .str s := he 0
  have e1 : e 1 = .str [32, 9] := he 1
  clear he
  simp only [c219,b219, oQ]
  have hw : ((([32, 9] : List UInt8) == ([] : List UInt8))) = false := rfl
  cases s with
  | nil =>
    simp -implicitDefEqProofs (disch := omega) only [↓ZD,ZP,cnd_t,cnd_f,↓reduceIte,Env.put,stepO,lenV,binV,binInt,unV,loadV,sliceV,boundOf,convV,slstrV,if_pos,if_neg,Int.reduceToNat,Nat.reducePow,V.cells,V.isCell,V.boxable,Nat.reduceEqDiff,reduceCtorEq,reduceIte,ite_self,enterEnv,e0,e1,binStr]
    exact gives_eq rfl rfl
  | cons c t =>
    have hne : ((c :: t) == ([] : List UInt8)) = false := rfl
    have hm := good225 [32, 9] (by decide) (by decide)
    have hro : (V.tup [.agg (asc (inB [32, 9])), .bool true]).ro = true := by simp [V.ro, roL, asc_ro]
    have hl : ∀ p, (asc p).length = 256 := asc_len
    have hcell := asc_cell (inB [32, 9])
    simp -implicitDefEqProofs (disch := omega) only [↓ZD,ZP,cnd_t,cnd_f,↓reduceIte,Env.put,stepO,lenV,binV,binInt,unV,loadV,sliceV,boundOf,convV,slstrV,if_pos,if_neg,Int.reduceToNat,Nat.reducePow,V.cells,V.isCell,V.boxable,Nat.reduceEqDiff,reduceCtorEq,reduceIte,ite_self,enterEnv,e0,e1,binStr,hne,hw]
    refine calP_ro rfl hm hro ?_
    simp -implicitDefEqProofs (disch := omega) only [↓ZD,ZP,cnd_t,cnd_f,↓reduceIte,Env.put,stepO,lenV,binV,binInt,unV,loadV,sliceV,boundOf,convV,slstrV,if_pos,if_neg,Int.reduceToNat,Nat.reducePow,V.cells,V.isCell,V.boxable,Nat.reduceEqDiff,reduceCtorEq,reduceIte,ite_self,enterEnv,e0,e1,binStr,hne,hw,hl,asc_all,hcell]
    refine calP_lr 1 (as' := [.str (c :: t), .rptr (asc blP) 0]) (H' := [.cells 0 0 false (asc blP)]) rfl (by simp [roL, V.ro, asc_ro]) (good227 blP (c :: t) hs) rfl fun H'' hH => ?_
    simp -implicitDefEqProofs (disch := omega) only [↓ZD,ZP,cnd_t,cnd_f,↓reduceIte,Env.put,stepO,lenV,binV,binInt,unV,loadV,sliceV,boundOf,convV,slstrV,if_pos,if_neg,Int.reduceToNat,Nat.reducePow,V.cells,V.isCell,V.boxable,Nat.reduceEqDiff,reduceCtorEq,reduceIte,ite_self,enterEnv,e0,e1]
    have hr := good226 blP (rtrim blP (c :: t)) (Nat.le_trans (rtrim_len _ _) hs)
    refine calP_lr 1 (as' := [.str (rtrim blP (c :: t)), .rptr (asc blP) 0]) (H' := [.cells 0 0 false (asc blP)]) (by rcases hH with rfl | rfl <;> rfl) (by simp [roL, V.ro, asc_ro]) hr rfl fun H3 hH3 => ?_
    simp -implicitDefEqProofs (disch := omega) only [↓ZD,ZP,cnd_t,cnd_f,↓reduceIte,Env.put,stepO,lenV,binV,binInt,unV,loadV,sliceV,boundOf,convV,slstrV,if_pos,if_neg,Int.reduceToNat,Nat.reducePow,V.cells,V.isCell,V.boxable,Nat.reduceEqDiff,reduceCtorEq,reduceIte,ite_self,enterEnv,e0,e1]
    exact gives_eq rfl rfl
end Fe
open Go Go.Proofs
namespace Fe
def b213 : C :=
 (.seq
 (.region false [
 oQ 2 (.mov (.c (.sl true [] 0))),
 oQ 3 (.mov (.c (.int .i64 0))),
 oQ 4 (.mov (.c (.int .i64 0)))])
 (.seq
 (.region false [
 oQ 15 (.mov (.t 0)),
 ⟨some 16, .call false (.c (.fn 7 [] [])) [.t 15], none⟩,
 oQ 14 (.mov (.t 16)),
 oQ 17 (.extract (.t 14) 0),
 oQ 18 (.extract (.t 14) 1),
 oQ 19 (.extract (.t 14) 2),
 oQ 5 (.mov (.t 17)),
 oQ 6 (.mov (.t 18)),
 oQ 7 (.mov (.t 19))])
 (.seq
 (.seq
 (.region false [
 oQ 20 (.mov (.t 6)),
 oQ 21 (.bin 0 .neq (.t 20) (.c (.int .i64 0)))])
 (.cond (.t 21)
 (.seq
 (.region false [
 oQ 22 (.mov (.t 6)),
 oQ 23 (.mov (.t 7)),
 oQ 2 (.mov (.c (.sl true [] 0))),
 oQ 3 (.mov (.t 22)),
 oQ 4 (.mov (.t 23))])
 .ret)
 .skip))
 (.seq
 (.region false [
 oQ 24 (.mov (.t 0)),
 oQ 25 (.conv .strRunes (.t 24)),
 oQ 8 (.mov (.t 25))])
 (.seq
 (.region false [
 oQ 9 (.mov (.c (.sl true [] 0)))])
 (.seq
 (.region false [
 oQ 10 (.mov (.c (.int .i64 0))),
 oQ 11 (.mov (.c (.int .i64 0)))])
 (.seq
 (.seq
 (.region false [
 oQ 26 (.mov (.t 5)),
 oQ 27 (.len false (.t 26)),
 oQ 28 (.mov (.c (.int .i64 0)))])
 (.block 0
 (.loop
 (.seq
 (.region false [
 oQ 29 (.bin 0 .lss (.t 28) (.t 27))])
 (.seq
 (.cond (.t 29)
 .skip
 (.exit 0))
 (.seq
 (.block 1
 (.seq
 (.region false [
 oQ 30 (.iaddr 5 (.t 26) (.t 28)),
 oQ 31 (.load true 5 (.t 30)),
 oQ 13 (.box (.c (.agg [.int .u8 0, .str [], .int .i64 0, .sl true [] 0, .sl true [] 0]))),
 ⟨none, .op (.store 5 (.t 13) (.t 31)), none⟩])
 (.block 2
 (.seq
 (.region false [
 oQ 33 (.faddr 0 (.t 13)),
 oQ 34 (.load false 1 (.t 33)),
 oQ 35 (.bin 0 .eql (.t 34) (.c (.int .u8 0))),
 oQ 36 (.mov (.t 35)),
 ⟨some 37, .op (.faddr 1 (.t 13)), some (36, false)⟩,
 ⟨some 38, .op (.load false 1 (.t 37)), some (36, false)⟩,
 ⟨some 39, .op (.bin 0 .eql (.t 38) (.c (.str [226, 139, 132]))), some (36, false)⟩,
 ⟨some 40, .op (.mov (.t 39)), some (36, false)⟩,
 ⟨some 41, .op (.mov (.t 11)), some (40, true)⟩,
 ⟨some 42, .op (.bin 0 .eql (.t 41) (.c (.int .i64 0))), some (40, true)⟩,
 ⟨some 43, .op (.pick (.t 40) (.t 42) (.c (.bool false))), some (36, false)⟩,
 oQ 44 (.pick (.t 36) (.c (.bool true)) (.t 43)),
 oQ 32 (.mov (.t 44))])
 (.cond (.t 32)
 (.seq
 (.region false [
 oQ 45 (.mov (.t 9)),
 oQ 46 (.mov (.t 8)),
 oQ 47 (.mov (.t 10)),
 oQ 48 (.faddr 2 (.t 13)),
 oQ 49 (.load false 1 (.t 48)),
 oQ 50 (.slice 1 (.t 46) (some (.t 47)) (some (.t 49)) none),
 oQ 51 (.conv .runesStr (.t 50)),
 ⟨some 52, .call false (.c (.fn 28 [] [])) [.t 51, .c (.str [32, 9])], none⟩,
 oQ 53 (.mksl [.str []] 1 [(0, (1, .t 52))]),
 oQ 54 (.append 1 16 (.t 45) (.t 53)),
 oQ 9 (.mov (.t 54))])
 (.region false [
 oQ 55 (.faddr 2 (.t 13)),
 oQ 56 (.load false 1 (.t 55)),
 oQ 57 (.bin 0 .add (.t 56) (.c (.int .i64 1))),
 oQ 10 (.mov (.t 57))]))
 (.seq
 (.region false [
 oQ 59 (.faddr 1 (.t 13)),
 oQ 60 (.load false 1 (.t 59)),
 oQ 61 (.bin 0 .eql (.t 60) (.c (.str [123]))),
 oQ 58 (.mov (.t 61))])
 (.cond (.t 58)
 (.region false [
 oQ 62 (.mov (.t 11)),
 oQ 63 (.bin 0 .add (.t 62) (.c (.int .i64 1))),
 oQ 11 (.mov (.t 63))])
 (.seq
 (.region false [
 oQ 65 (.faddr 1 (.t 13)),
 oQ 66 (.load false 1 (.t 65)),
 oQ 67 (.bin 0 .eql (.t 66) (.c (.str [125]))),
 oQ 64 (.mov (.t 67))])
 (.cond (.t 64)
 (.region false [
 oQ 68 (.mov (.t 11)),
 oQ 69 (.bin 0 .sub (.t 68) (.c (.int .i64 1))),
 oQ 70 (.mx (.t 69) (.c (.int .i64 0))),
 oQ 11 (.mov (.t 70))])
 .skip)))))))))
 (.region false [
 oQ 71 (.bin 0 .add (.t 28) (.c (.int .i64 1))),
 oQ 28 (.mov (.t 71))])))))))
 (.seq
 (.region false [
 oQ 72 (.mov (.t 9)),
 oQ 2 (.mov (.t 72)),
 oQ 3 (.mov (.c (.int .i64 0))),
 oQ 4 (.mov (.c (.int .i64 0)))])
 .ret))))))))
def c213 : CF := ⟨73, 1, [.mov (.t 2), .mov (.t 3), .mov (.t 4)], b213⟩
theorem s213 : stripF Go.Proofs.Tryz.prog 14 = some c213 := by kernel_rfl

/-! ### Where a line is cut -/
def kindOf (t : List V) : Nat := match t with
  | .int _ k :: _ => k.toNat
  | _ => 0
def txtOf (t : List V) : List UInt8 := match t with
  | [_, .str s, _, _, _] => s
  | _ => []
def atOf (t : List V) : Nat := match t with
  | [_, _, .int _ i, _, _] => i.toNat
  | _ => 0
def diaB : List UInt8 := [226, 139, 132]
/-- The parts of the characters from 'fr' on, 'o' braces being open. -/
def splitL (rs : List Nat) : Nat → Nat → List (List V) → List (List UInt8)
  | _, _, [] => []
  | fr, o, t :: ts =>
    if kindOf t = 0 ∨ txtOf t = diaB ∧ o = 0 then trimS (encs ((rs.drop fr).take (atOf t - fr))) :: splitL rs (atOf t + 1) o ts
    else if txtOf t = [123] then splitL rs fr (o + 1) ts
    else if txtOf t = [125] then splitL rs fr (o - 1) ts
    else splitL rs fr o ts

/-- Tokens in their places. -/
inductive Toks (N : Nat) : Nat → List (List V) → Prop
  | nil {fr : Nat} : Toks N fr []
  | cons {fr i kind n1 n2 : Nat} {text : List UInt8} {e1 e2 : Bool} {l1 l2 : List V} {ts : List (List V)} : fr ≤ i → i ≤ N → kind < 7 → roL l1 = true → roL l2 = true → Toks N (i + 1) ts →
      Toks N fr (tokC kind text i (.sl e1 l1 n1) (.sl e2 l2 n2) :: ts)

theorem Toks.ro {N : Nat} : ∀ {fr : Nat} {ts : List (List V)}, Toks N fr ts → roL ts.flatten = true ∧ (∀ t ∈ ts, t.length = 5) ∧ ts.length ≤ N + 1 - fr
  | _, _, .nil => ⟨rfl, fun t ht => (List.not_mem_nil ht).elim, Nat.zero_le _⟩
  | _, _, .cons h1 h2 hk h3 h4 h => by
    obtain ⟨a, b, c⟩ := h.ro
    refine ⟨?_, ?_, ?_⟩
    · simp only [List.flatten_cons,tokC,List.cons_append,List.nil_append,roL,V.ro,h3,h4,a,Bool.and_true]
    · intro t ht
      rcases List.mem_cons.1 ht with rfl | ht
      · rfl
      · exact b t ht
    · simp only [List.length_cons]; omega
theorem Toks.lower {N : Nat} {fr fr' : Nat} {ts : List (List V)} (h : Toks N fr ts) (hf : fr' ≤ fr) : Toks N fr' ts := by
  cases h with
  | nil => exact .nil
  | cons h1 h2 hk h3 h4 h => exact .cons (Nat.le_trans hf h1) h2 hk h3 h4 h

theorem tokenS_kind {l : List Nat} {kind n : Nat} {a1 a2 : V} (h : tokenS l = .ok kind n a1 a2) : 1 ≤ kind ∧ kind < 7 := by
  cases l with
  | nil => cases h
  | cons c r =>
    rw [tokenS] at h
    unfold numTok textTok nameTok at h
    repeat' split at h
    all_goals first | (cases h; done) | (simp only [TR.ok.injEq] at h; omega)

theorem toks_of_lex {N : Nat} : ∀ (n i : Nat) (l : List Nat) (ts : List (List V)), i + l.length ≤ N → lexL n i l = .ok ts → Toks N i ts
  | 0, i, l, ts, hN, h => by cases h; exact .nil
  | n + 1, i, l, ts, hN, h => by
    have htd : (l.takeWhile blankC).length + (l.dropWhile blankC).length = l.length := by
      rw [← List.length_append, List.takeWhile_append_dropWhile]
    have fin : Toks N i [endTok (i + (l.takeWhile blankC).length)] := .cons (by omega) (by omega) (by decide) rfl rfl .nil
    rw [lexL] at h
    cases hdw : l.dropWhile blankC with
    | nil => rw [hdw] at h; cases h; exact fin
    | cons c r =>
      rw [hdw] at h htd
      simp only at h
      by_cases hc : c = 9053
      · rw [if_pos hc] at h; cases h; exact fin
      · rw [if_neg hc] at h
        cases htok : tokenS (c :: r) with
        | err er => rw [htok] at h; cases h
        | ok kind k a1 a2 =>
          rw [htok] at h
          simp only at h
          have hk := tokenS_n htok
          cases hrec : lexL n (i + (l.takeWhile blankC).length + k) ((c :: r).drop k) with
          | error x => rw [hrec] at h; cases h
          | ok ts1 =>
            rw [hrec] at h
            cases h
            have hdl : ((c :: r).drop k).length = (c :: r).length - k := List.length_drop
            have ih := toks_of_lex n _ _ ts1 (N := N) (by omega) hrec
            obtain ⟨e1, l1, n1, e2, l2, n2, rfl, rfl, r1, r2⟩ := tokenS_cell htok
            exact .cons (by omega) (by omega) (tokenS_kind htok).2 r1 r2 (ih.lower (by omega))

def strL (l : List (List UInt8)) : List V := l.map .str
theorem strL_len (l : List (List UInt8)) : (strL l).length = l.length := by simp [strL]
theorem strL_app (a b : List (List UInt8)) : strL (a ++ b) = strL a ++ strL b := by simp [strL]
theorem strL_ro : ∀ l : List (List UInt8), roL (strL l) = true
  | [] => rfl
  | c :: l => by simp only [strL,List.map_cons,roL,Bool.and_eq_true]; exact ⟨rfl, strL_ro l⟩
theorem strL_get {l : List (List UInt8)} {i : Nat} {c : List UInt8} (h : l[i]? = some c) : (strL l)[i]? = some (.str c) := by simp [strL, h]
def ssl (l : List (List UInt8)) : V := .sl false (strL l) l.length

/-- What Split hands back. -/
def splitR (s : List UInt8) : V :=
  if 1024 < s.length then .tup [.sl false [] 0, .int .i64 25, .int .i64 0]
  else match bad s with
    | some i => .tup [.sl false [] 0, .int .i64 26, .int .i64 (i : Nat)]
    | none => match lexL ((rn s).length + 1) 0 (rn s) with
      | .error (e, j) => .tup [.sl false [] 0, .int .i64 (e : Nat), .int .i64 (j : Nat)]
      | .ok ts => .tup [ssl (splitL (rn s) 0 0 ts), .int .i64 0, .int .i64 0]

/-- The parts that are made. -/
def StrAt (H : Heap) (v : V) (l : List (List UInt8)) : Prop := (l = [] ∧ v = .sl true [] 0) ∨ ∃ b g, v = .view b g 0 l.length ∧ b < H.length ∧ H[b]? = some (.cells g 1 true (strL l))

theorem mx_c (o : Nat) : (if (0 : Int) > (o : Int) - 1 then (0 : Int) else (o : Int) - 1) = ((o - 1 : Nat) : Int) := by
  split <;> omega

set_option maxHeartbeats 4000000 in
theorem good213 (s : List UInt8) : Good Go.Proofs.Tryz.prog 14 [.str s] (splitR s) := by
  refine good_go mix s213 (Nat.le_of_ble_eq_true rfl) fun e he => ?_
  have e0 : e 0 = .str s := he 0
  clear he
  have h5 := good5 s
  simp only [c213,b213, oQ]
  simp -implicitDefEqProofs (disch := omega) only [↓ZD,ZP,cnd_t,cnd_f,↓reduceIte,Env.put,stepO,lenV,binV,binInt,unV,loadV,sliceV,boundOf,convV,slstrV,if_pos,if_neg,Int.reduceToNat,Nat.reducePow,V.cells,V.isCell,V.boxable,Nat.reduceEqDiff,reduceCtorEq,reduceIte,ite_self,enterEnv,e0]
  have hsp : (∃ er j : Nat, er ≠ 0 ∧ allR s = .tup [.sl false [] 0, .int .i64 (er : Nat), .int .i64 (j : Nat)] ∧ splitR s = allR s) ∨
    (∃ ts, allR s = .tup [.sl false ts.flatten ts.length, .int .i64 0, .int .i64 0] ∧ s.length ≤ 1024 ∧ lexL ((rn s).length + 1) 0 (rn s) = .ok ts ∧ splitR s = .tup [ssl (splitL (rn s) 0 0 ts), .int .i64 0, .int .i64 0]) := by
    unfold allR splitR
    split
    · exact .inl ⟨25, 0, by decide, rfl, rfl⟩
    · rename_i hl
      split
      · rename_i i hb
        exact .inl ⟨26, i, by decide, rfl, by simp only [hb]⟩
      · rename_i hb
        split
        · rename_i e j hx
          exact .inl ⟨e, j, lexL_err _ _ _ _ _ hx, rfl, by simp only [hb,hx]⟩
        · rename_i ts hx
          exact .inr ⟨ts, rfl, by omega, hx, by simp only [hb,hx]⟩
  rcases hsp with ⟨er, j, hne, hall, hsp⟩ | ⟨ts, hall, hlen, hlex, hsp⟩
  · rw [hsp]
    rw [hall] at h5 ⊢
    refine calP_ro (str_ro _) h5 rfl ?_
    simp -implicitDefEqProofs (disch := omega) only [↓ZD,ZP,cnd_t,cnd_f,↓reduceIte,Env.put,stepO,lenV,binV,binInt,unV,loadV,sliceV,boundOf,convV,slstrV,if_pos,if_neg,Int.reduceToNat,Nat.reducePow,V.cells,V.isCell,V.boxable,Nat.reduceEqDiff,reduceCtorEq,reduceIte,ite_self,enterEnv,e0]
    exact gives_eq rfl rfl
  rw [hall] at h5
  rw [hsp]
  have hrl := rn_len s
  have htoks := toks_of_lex _ 0 (rn s) ts (N := (rn s).length) (by omega) hlex
  obtain ⟨m4, m2, m1⟩ := htoks.ro
  have hflat := flat_len ts m2
  refine calP_ro (str_ro _) h5 (live_ro3 _ _ m4) ?_
  have hrr : ((runesL s.length s).map fun (r : Nat) => V.int .i32 r) = rl (rn s) := rfl
  have hrlen : (runesL s.length s).length = (rn s).length := rfl
  simp -implicitDefEqProofs (disch := omega) only [↓ZD,ZP,cnd_t,cnd_f,↓reduceIte,Env.put,stepO,lenV,binV,binInt,unV,loadV,sliceV,boundOf,convV,slstrV,if_pos,if_neg,Int.reduceToNat,Nat.reducePow,V.cells,V.isCell,V.boxable,Nat.reduceEqDiff,reduceCtorEq,reduceIte,ite_self,enterEnv,e0,convV,hrr,hrlen]
  refine go_loop (fun k e H => ∃ A Z fr g o out v, ts = A ++ Z ∧ k = Z.length ∧ fr ≤ g ∧ Toks (rn s).length g Z ∧ StrAt H v out ∧ out.length ≤ A.length ∧ o ≤ A.length ∧ splitL (rn s) 0 0 ts = out ++ splitL (rn s) fr o Z ∧
      e 8 = rsl (rn s) ∧ e 9 = v ∧ e 10 = .int .i64 (fr : Nat) ∧ e 11 = .int .i64 (o : Nat) ∧ e 26 = .sl false ts.flatten ts.length ∧ e 27 = .int .i64 (ts.length : Nat) ∧ e 28 = .int .i64 (A.length : Nat)) ts.length
    ⟨[], ts, 0, 0, 0, [], .sl true [] 0, rfl, rfl, Nat.le_refl _, htoks, .inl ⟨rfl, rfl⟩, Nat.le_refl _, Nat.le_refl _, rfl, ?_, ?_, ?_, ?_, ?_, ?_, ?_⟩ ?_
  · simp [Env.set, rsl]
  · simp [Env.set]
  · simp [Env.set]
  · simp [Env.set]
  · simp [Env.set]
  · simp [Env.set]
  · simp [Env.set]
  clear e0
  rintro k e H ⟨A, Z, fr, g, o, out, v, hAZ, rfl, hfg, hZ, hout, hol, hoA, hspl, e8, e9, e10, e11, e26, e27, e28⟩
  have hAl : ts.length = A.length + Z.length := by rw [hAZ]; simp
  have hA5 : ∀ x ∈ A, x.length = 5 := fun x hx => m2 x (by rw [hAZ]; exact List.mem_append_left _ hx)
  cases hZ with
  | nil =>
    simp only [List.length_nil,Nat.add_zero] at hAl
    have hspl' : splitL (rn s) 0 0 ts = out := by rw [hspl, splitL, List.append_nil]
    rw [hspl']
    rcases hout with ⟨rfl, rfl⟩ | ⟨b, g, rfl, hbl, hb⟩
    · simp -implicitDefEqProofs (disch := omega) only [↓ZD,ZP,cnd_t,cnd_f,↓reduceIte,Env.put,stepO,lenV,binV,binInt,unV,loadV,sliceV,boundOf,convV,slstrV,if_pos,if_neg,Int.reduceToNat,Nat.reducePow,V.cells,V.isCell,V.boxable,Nat.reduceEqDiff,reduceCtorEq,reduceIte,ite_self,enterEnv,e8,e9,e10,e11,e26,e27,e28,hAl]
      exact gives_eq rfl rfl
    · have htake : (strL out).take out.length = strL out := by rw [← strL_len out, List.take_length]
      simp -implicitDefEqProofs (disch := omega) only [↓ZD,ZP,cnd_t,cnd_f,↓reduceIte,Env.put,stepO,lenV,binV,binInt,unV,loadV,sliceV,boundOf,convV,slstrV,if_pos,if_neg,Int.reduceToNat,Nat.reducePow,V.cells,V.isCell,V.boxable,Nat.reduceEqDiff,reduceCtorEq,reduceIte,ite_self,enterEnv,e8,e9,e10,e11,e26,e27,e28,hAl]
      refine gives_lend 1 (v' := .tup [ssl out, .int .i64 0, .int .i64 0]) ?_ (by simp [V.ro, roL, ssl, strL_ro]) rfl
      simp only [lend1,borL,bor,hb,if_true,List.drop_zero,Nat.mul_one,htake,ssl]
  | cons h1 h2 hkind r1 r2 hZ =>
    rename_i i kind n1 n2 text x1 x2 l1 l2 Z
    simp only [List.length_cons] at hAl
    have hd5 : (ts.flatten.drop (A.length * 5)).take 5 = [.int .u8 (kind : Nat), .str text, .int .i64 (i : Nat), .sl x1 l1 n1, .sl x2 l2 n2] := by
      rw [hAZ, flat5_drop hA5]; rfl
    have hnext : ts = (A ++ [tokC kind text i (.sl x1 l1 n1) (.sl x2 l2 n2)]) ++ Z := by rw [hAZ]; simp
    have hAl1 : (A ++ [tokC kind text i (.sl x1 l1 n1) (.sl x2 l2 n2)]).length = A.length + 1 := by simp
    have hsub : ((i : Int) - (fr : Int)).toNat = i - fr := by omega
    have htl : (rl (((rn s).drop fr).take (i - fr))).length = i - fr := by rw [rl_len, List.length_take, List.length_drop]; omega
    have htl2 : ((((rn s).drop fr).take (i - fr))).length = i - fr := by rw [List.length_take, List.length_drop]; omega
    have htr := good219 (encs (((rn s).drop fr).take (i - fr))) (by
      have h := encs_len (((rn s).drop fr).take (i - fr))
      rw [htl2] at h
      omega)
    have hkk : kindOf (tokC kind text i (.sl x1 l1 n1) (.sl x2 l2 n2)) = kind := by simp [kindOf, tokC]
    have hkt : txtOf (tokC kind text i (.sl x1 l1 n1) (.sl x2 l2 n2)) = text := rfl
    have hka : atOf (tokC kind text i (.sl x1 l1 n1) (.sl x2 l2 n2)) = i := by simp [atOf, tokC]
    rw [splitL, hkk, hkt, hka] at hspl
    generalize hT : trimS (encs (((rn s).drop fr).take (i - fr))) = T at htr hspl
    have hdb : diaB = [226, 139, 132] := rfl
    have hq1 : ∀ n, n ≤ A.length + 1 → n ≤ (A ++ [tokC kind text i (.sl x1 l1 n1) (.sl x2 l2 n2)]).length := fun n h => by rw [hAl1]; exact h
    have hq2 : V.int .i64 ((A.length + 1 : Nat) : Int) = .int .i64 (((A ++ [tokC kind text i (.sl x1 l1 n1) (.sl x2 l2 n2)]).length : Nat) : Int) := by rw [hAl1]
    by_cases hcut : kind = 0 ∨ text = diaB ∧ o = 0
    · rw [if_pos hcut] at hspl
      have hspl' : splitL (rn s) 0 0 ts = (out ++ [T]) ++ splitL (rn s) (i + 1) o Z := by rw [hspl]; simp
      rcases Nat.eq_zero_or_pos kind with hk0 | hk0
      · subst hk0
        simp -implicitDefEqProofs (disch := (first | omega | (simp only [List.length_append,List.length_set,List.length_cons,List.length_nil]; try omega; done))) only [↓ZD,ZP,ZL,cnd_t,cnd_f,↓reduceIte,Env.put,stepO,lenV,binV,binInt,unV,loadV,sliceV,boundOf,convV,slstrV,if_pos,if_neg,Int.reduceToNat,Nat.reducePow,V.cells,V.isCell,V.boxable,Nat.reduceEqDiff,reduceCtorEq,reduceIte,ite_self,enterEnv,e8,e9,e10,e11,e26,e27,e28,hd5,hflat,fillL,evParts,splice,List.take_zero,List.take_succ_cons,List.drop_succ_cons,List.drop_zero,List.drop_nil,binStr,rsl,rl_len,slice_rl,convV,readSl,runesOf_rl,htl,hsub]
        refine calP_ro rfl htr rfl ?_
        rcases hout with ⟨rfl, rfl⟩ | ⟨b, gg, rfl, hbl, hb⟩
        · simp -implicitDefEqProofs (disch := (first | omega | (simp only [List.length_append,List.length_set,List.length_cons,List.length_nil]; try omega; done))) only [↓ZD,ZP,ZL,cnd_t,cnd_f,↓reduceIte,Env.put,stepO,lenV,binV,binInt,unV,loadV,sliceV,boundOf,convV,slstrV,if_pos,if_neg,Int.reduceToNat,Nat.reducePow,V.cells,V.isCell,V.boxable,Nat.reduceEqDiff,reduceCtorEq,reduceIte,ite_self,enterEnv,e8,e9,e10,e11,e26,e27,e28,hd5,hflat,fillL,evParts,splice,List.take_zero,List.take_succ_cons,List.drop_succ_cons,List.drop_zero,List.drop_nil,appendV,srcCells,readSl]
          exact ⟨Z.length, by omega, _, Z, i + 1, i + 1, o, [] ++ [T], _, hnext, rfl, Nat.le_refl _, hZ, .inr ⟨H.length + 1, 0, rfl, by simp, by simp [strL]⟩, hq1 _ (by simp), hq1 _ (by omega), hspl', rfl, rfl, rfl, rfl, hq2⟩
        · have hST : (strL out).take out.length ++ [V.str T] = strL (out ++ [T]) := by rw [strL_app, ← strL_len out, List.take_length]; rfl
          simp -implicitDefEqProofs (disch := (first | omega | (simp only [List.length_append,List.length_set,List.length_cons,List.length_nil]; try omega; done))) only [↓ZD,ZP,ZL,cnd_t,cnd_f,↓reduceIte,Env.put,stepO,lenV,binV,binInt,unV,loadV,sliceV,boundOf,convV,slstrV,if_pos,if_neg,Int.reduceToNat,Nat.reducePow,V.cells,V.isCell,V.boxable,Nat.reduceEqDiff,reduceCtorEq,reduceIte,ite_self,enterEnv,e8,e9,e10,e11,e26,e27,e28,hd5,hflat,fillL,evParts,splice,List.take_zero,List.take_succ_cons,List.drop_succ_cons,List.drop_zero,List.drop_nil,appendV,srcCells,readSl,hb,strL_len,hST]
          exact ⟨Z.length, by omega, _, Z, i + 1, i + 1, o, out ++ [T], _, hnext, rfl, Nat.le_refl _, hZ, .inr ⟨b, gg + 1, by simp, by rw [len_set, len_push]; omega, get_set_self (by rw [len_push]; omega)⟩, hq1 _ (by simp; omega), hq1 _ (by omega), hspl', rfl, rfl, rfl, rfl, hq2⟩
      · obtain ⟨htx, rfl⟩ : text = diaB ∧ o = 0 := by
          rcases hcut with h | h
          · omega
          · exact h
        subst htx
        have hbd : (diaB == [226, 139, 132]) = true := rfl
        simp -implicitDefEqProofs (disch := (first | omega | (simp only [List.length_append,List.length_set,List.length_cons,List.length_nil]; try omega; done))) only [↓ZD,ZP,ZL,cnd_t,cnd_f,↓reduceIte,Env.put,stepO,lenV,binV,binInt,unV,loadV,sliceV,boundOf,convV,slstrV,if_pos,if_neg,Int.reduceToNat,Nat.reducePow,V.cells,V.isCell,V.boxable,Nat.reduceEqDiff,reduceCtorEq,reduceIte,ite_self,enterEnv,e8,e9,e10,e11,e26,e27,e28,hd5,hflat,fillL,evParts,splice,List.take_zero,List.take_succ_cons,List.drop_succ_cons,List.drop_zero,List.drop_nil,binStr,hbd,rsl,rl_len,slice_rl,convV,readSl,runesOf_rl,htl,hsub]
        refine calP_ro rfl htr rfl ?_
        rcases hout with ⟨rfl, rfl⟩ | ⟨b, gg, rfl, hbl, hb⟩
        · simp -implicitDefEqProofs (disch := (first | omega | (simp only [List.length_append,List.length_set,List.length_cons,List.length_nil]; try omega; done))) only [↓ZD,ZP,ZL,cnd_t,cnd_f,↓reduceIte,Env.put,stepO,lenV,binV,binInt,unV,loadV,sliceV,boundOf,convV,slstrV,if_pos,if_neg,Int.reduceToNat,Nat.reducePow,V.cells,V.isCell,V.boxable,Nat.reduceEqDiff,reduceCtorEq,reduceIte,ite_self,enterEnv,e8,e9,e10,e11,e26,e27,e28,hd5,hflat,fillL,evParts,splice,List.take_zero,List.take_succ_cons,List.drop_succ_cons,List.drop_zero,List.drop_nil,appendV,srcCells,readSl]
          exact ⟨Z.length, by omega, _, Z, i + 1, i + 1, 0, [] ++ [T], _, hnext, rfl, Nat.le_refl _, hZ, .inr ⟨H.length + 1, 0, rfl, by simp, by simp [strL]⟩, hq1 _ (by simp), hq1 _ (by omega), hspl', rfl, rfl, rfl, rfl, hq2⟩
        · have hST : (strL out).take out.length ++ [V.str T] = strL (out ++ [T]) := by rw [strL_app, ← strL_len out, List.take_length]; rfl
          simp -implicitDefEqProofs (disch := (first | omega | (simp only [List.length_append,List.length_set,List.length_cons,List.length_nil]; try omega; done))) only [↓ZD,ZP,ZL,cnd_t,cnd_f,↓reduceIte,Env.put,stepO,lenV,binV,binInt,unV,loadV,sliceV,boundOf,convV,slstrV,if_pos,if_neg,Int.reduceToNat,Nat.reducePow,V.cells,V.isCell,V.boxable,Nat.reduceEqDiff,reduceCtorEq,reduceIte,ite_self,enterEnv,e8,e9,e10,e11,e26,e27,e28,hd5,hflat,fillL,evParts,splice,List.take_zero,List.take_succ_cons,List.drop_succ_cons,List.drop_zero,List.drop_nil,appendV,srcCells,readSl,hb,strL_len,hST]
          exact ⟨Z.length, by omega, _, Z, i + 1, i + 1, 0, out ++ [T], _, hnext, rfl, Nat.le_refl _, hZ, .inr ⟨b, gg + 1, by simp, by rw [len_set, len_push]; omega, get_set_self (by rw [len_push]; omega)⟩, hq1 _ (by simp; omega), hq1 _ (by omega), hspl', rfl, rfl, rfl, rfl, hq2⟩
    · rw [if_neg hcut] at hspl
      have hk0 : ¬ kind = 0 := fun h => hcut (.inl h)
      have hput : ∀ x, StrAt (H ++ [x]) v out := by
        intro x
        rcases hout with h | ⟨b, gg, h1, h2, h3⟩
        · exact .inl h
        · exact .inr ⟨b, gg, h1, by simp; omega, by rw [get_push h2]; exact h3⟩
      cases hd : (text == ([226, 139, 132] : List UInt8)) with
      | true =>
        have htx : text = diaB := by rw [hdb]; simpa using hd
        have ho : ¬ o = 0 := fun h => hcut (.inr ⟨htx, h⟩)
        have n1 : (text == ([123] : List UInt8)) = false := by rw [htx]; rfl
        have n2 : (text == ([125] : List UInt8)) = false := by rw [htx]; rfl
        rw [if_neg (by rw [htx]; decide), if_neg (by rw [htx]; decide)] at hspl
        simp -implicitDefEqProofs (disch := (first | omega | (simp only [List.length_append,List.length_set,List.length_cons,List.length_nil]; try omega; done))) only [↓ZD,ZP,ZL,cnd_t,cnd_f,↓reduceIte,Env.put,stepO,lenV,binV,binInt,unV,loadV,sliceV,boundOf,convV,slstrV,if_pos,if_neg,Int.reduceToNat,Nat.reducePow,V.cells,V.isCell,V.boxable,Nat.reduceEqDiff,reduceCtorEq,reduceIte,ite_self,enterEnv,e8,e9,e10,e11,e26,e27,e28,hd5,hflat,fillL,evParts,splice,List.take_zero,List.take_succ_cons,List.drop_succ_cons,List.drop_zero,List.drop_nil,binStr,hd,n1,n2]
        exact ⟨Z.length, by omega, _, Z, fr, i + 1, o, out, v, hnext, rfl, by omega, hZ, hput _, hq1 _ (by omega), hq1 _ (by omega), hspl, rfl, rfl, rfl, hq2⟩
      | false =>
        cases n1 : (text == ([123] : List UInt8)) with
        | true =>
          rw [if_pos (by simpa using n1)] at hspl
          simp -implicitDefEqProofs (disch := (first | omega | (simp only [List.length_append,List.length_set,List.length_cons,List.length_nil]; try omega; done))) only [↓ZD,ZP,ZL,cnd_t,cnd_f,↓reduceIte,Env.put,stepO,lenV,binV,binInt,unV,loadV,sliceV,boundOf,convV,slstrV,if_pos,if_neg,Int.reduceToNat,Nat.reducePow,V.cells,V.isCell,V.boxable,Nat.reduceEqDiff,reduceCtorEq,reduceIte,ite_self,enterEnv,e8,e9,e10,e11,e26,e27,e28,hd5,hflat,fillL,evParts,splice,List.take_zero,List.take_succ_cons,List.drop_succ_cons,List.drop_zero,List.drop_nil,binStr,hd,n1]
          exact ⟨Z.length, by omega, _, Z, fr, i + 1, o + 1, out, v, hnext, rfl, by omega, hZ, hput _, hq1 _ (by omega), hq1 _ (by omega), hspl, rfl, rfl, rfl, hq2⟩
        | false =>
          rw [if_neg (by simpa using n1)] at hspl
          cases n2 : (text == ([125] : List UInt8)) with
          | true =>
            rw [if_pos (by simpa using n2)] at hspl
            simp -implicitDefEqProofs (disch := (first | omega | (simp only [List.length_append,List.length_set,List.length_cons,List.length_nil]; try omega; done))) only [↓ZD,ZP,ZL,cnd_t,cnd_f,↓reduceIte,Env.put,stepO,lenV,binV,binInt,unV,loadV,sliceV,boundOf,convV,slstrV,if_pos,if_neg,Int.reduceToNat,Nat.reducePow,V.cells,V.isCell,V.boxable,Nat.reduceEqDiff,reduceCtorEq,reduceIte,ite_self,enterEnv,e8,e9,e10,e11,e26,e27,e28,hd5,hflat,fillL,evParts,splice,List.take_zero,List.take_succ_cons,List.drop_succ_cons,List.drop_zero,List.drop_nil,binStr,hd,n1,n2,mx_c]
            exact ⟨Z.length, by omega, _, Z, fr, i + 1, o - 1, out, v, hnext, rfl, by omega, hZ, hput _, hq1 _ (by omega), hq1 _ (by omega), hspl, rfl, rfl, rfl, hq2⟩
          | false =>
            rw [if_neg (by simpa using n2)] at hspl
            simp -implicitDefEqProofs (disch := (first | omega | (simp only [List.length_append,List.length_set,List.length_cons,List.length_nil]; try omega; done))) only [↓ZD,ZP,ZL,cnd_t,cnd_f,↓reduceIte,Env.put,stepO,lenV,binV,binInt,unV,loadV,sliceV,boundOf,convV,slstrV,if_pos,if_neg,Int.reduceToNat,Nat.reducePow,V.cells,V.isCell,V.boxable,Nat.reduceEqDiff,reduceCtorEq,reduceIte,ite_self,enterEnv,e8,e9,e10,e11,e26,e27,e28,hd5,hflat,fillL,evParts,splice,List.take_zero,List.take_succ_cons,List.drop_succ_cons,List.drop_zero,List.drop_nil,binStr,hd,n1,n2]
            exact ⟨Z.length, by omega, _, Z, fr, i + 1, o, out, v, hnext, rfl, by omega, hZ, hput _, hq1 _ (by omega), hq1 _ (by omega), hspl, rfl, rfl, rfl, hq2⟩
end Fe
