/- How arguments of laws are read: trees, forms, types, proofs, expressions and lists of these, in old memory. -/
import Derived.Test.YtoajlhhalpldfaaGreatDoorAm4
import Derived.Test.YtoajlhhalpldfaaGreatDoorPuB
namespace Go.Am
open Go

instance : Inhabited LF := ⟨zF⟩
instance : Inhabited LP := ⟨zP⟩

def old (l : List Nat) : Prop := ∀ x ∈ l, x = 0
theorem old.nil : old [] := fun x h => by cases h
theorem old.app {a b : List Nat} (h : old a) (k : old b) : old (a ++ b) := fun x hx => (List.mem_append.1 hx).elim (h x) (k x)
theorem old.cons {a : List Nat} (h : old a) : old (0 :: a) := fun x hx => (List.mem_cons.1 hx).elim id (h x)
theorem old_ttoks : ∀ {ks : List LT}, (∀ t ∈ ks, old t.toks) → old (ttoks ks)
 | [], _ => .nil
 | t :: r, h => (h t (List.mem_cons_self ..)).app (old_ttoks fun t ht => h t (List.mem_cons_of_mem _ ht))
theorem old_tstoks {ks : List LT} (h : ∀ t ∈ ks, old t.toks) : old (tstoks 0 ks) := by
 cases ks with
 | nil => exact .nil
 | cons t r => exact (old_ttoks h).cons
section
open Go.ChangeShapes
variable {H : Type} {enc : TypeId × Value → H} {P : Program} {w : World} {sp : Nat → Bool} {held : Bool}

theorem read_slice {α : Type} [Inhabited α] {T TE : TypeId} (hT : P.underlying T = some (.slice TE)) {sz : Nat} (hC : P.cellsOf TE = sz) (hs0 : 0 < sz) {cells : α → List AV} {ok : α → Prop} (hlen : ∀ t, (cells t).length = sz) (hd1 : ∀ t, alld1 (cells t) = true)
  {fuel : Nat} {cs : List Value} {x : DataW H × List MemPlace} (h : DataW.trod enc P w 0 sp held fuel T cs = some x)
  (rd : ∀ m, m < fuel → ∀ (cs : List Value) (x : DataW H × List MemPlace), DataW.trod enc P w 0 sp held m TE cs = some x → ∃ t : α, ok t ∧ cs.length = sz ∧ ∀ j v, (cells t)[j]? = some v → RepC (start w) v (cs.getD j undef)) :
  ∃ c, cs = [c] ∧ ∃ ks : List α, (∀ t ∈ ks, ok t) ∧ ks.length ≤ maxLen ∧ RepC (start w) (.imm 0 sz false (ks.map cells)) c := by
 rcases DataW.trod_slice hT h with ⟨hc3, _⟩ | ⟨a, len, cap, elems, rest, m', rfl, hc3, _, _, hlc, hcm, hel, hget, _, _⟩
 ·exact ⟨_, hc3, [], (fun t ht => by cases ht), Nat.zero_le _, .imm0 _ _ _ _ _ (fun h => by cases h) (Nat.zero_le _)⟩
 refine ⟨_, hc3, ?_⟩
 have each : ∀ i : Nat, ∃ p : α × List Value, i < len → ok p.1 ∧ w.cells? 0 (a.add (i * sz)) sz = some p.2 ∧ p.2.length = sz ∧ ∀ j v, (cells p.1)[j]? = some v → RepC (start w) v (p.2.getD j undef) := by
  intro i
  by_cases hi : i < len
  ·have g := hget i hi
   rw [List.getElem?_eq_getElem (by omega), hC] at g
   obtain ⟨cs', g1, g2⟩ := Option.bind_eq_some_iff.1 g
   obtain ⟨t, t1, t2, t3⟩ := rd m' (by omega) cs' _ g2
   exact ⟨(t, cs'), fun _ => ⟨t1, g1, t2, t3⟩⟩
  exact ⟨default, fun h => absurd h hi⟩
 let pf : Nat → α × List Value := fun i => Classical.choose (each i)
 have hpf : ∀ i, i < len → ok (pf i).1 ∧ w.cells? 0 (a.add (i * sz)) sz = some (pf i).2 ∧ (pf i).2.length = sz ∧ ∀ j v, (cells (pf i).1)[j]? = some v → RepC (start w) v ((pf i).2.getD j undef) := fun i => Classical.choose_spec (each i)
 clear_value pf
 have hcell : ∀ i, i < len → ∀ j, j < sz → w.cell? ((a.add (i * sz)).add j) = some ((pf i).2.getD j undef) := by
  intro i hi j hj
  obtain ⟨_, g1, g2, _⟩ := hpf i hi
  obtain ⟨_, _, g3⟩ := World.cells?_some g1
  have := g3 j hj
  rw [this]
  simp [List.getD_eq_getElem?_getD, List.getElem?_eq_getElem (show j < (pf i).2.length by omega)]
 let ks : List α := (List.range len).map fun i => (pf i).1
 have hkl : ks.length = len := by simp [ks]
 have hkg : ∀ i, i < len → ks[i]? = some (pf i).1 := fun i hi => by simp [ks, hi]
 refine ⟨ks, fun t ht => ?_, by rw [hkl]; omega, ?_⟩
 ·obtain ⟨i, hi, rfl⟩ := List.mem_map.1 ht
  exact (hpf i (List.mem_range.1 hi)).1
 by_cases hl0 : len = 0
 ·have : ks = [] := List.length_eq_zero_iff.1 (by omega)
  rw [this, hl0]
  exact .imm0 _ _ _ _ _ (fun h => by cases h) hcm
 have hspot : a.spot = none := by
  have h00 := hcell 0 (by omega) 0 hs0
  have := spot_of_cell h00
  obtain ⟨b, o, s⟩ := a
  cases s with
  | none => rfl
  | some s => simp [Addr.add] at this
 obtain ⟨b, o, s⟩ := a
 subst hspot
 have hb : b < w.heap.size := by
  have h00 := hcell 0 (by omega) 0 hs0
  rw [add_off, add_off] at h00
  unfold World.cell? at h00
  split at h00
  ·rename_i hh; exact (Array.getElem?_eq_some_iff.1 hh).1
  cases h00
 have hcl : (ks.map cells).length = len := by rw [List.length_map, hkl]
 rw [← hcl]
 have hgetc : ∀ (i : Nat) (e : List AV), (ks.map cells)[i]? = some e → i < len ∧ e = cells (pf i).1 := by
  intro i e he
  have hi : i < len := by rw [← hcl]; exact (List.getElem?_eq_some_iff.1 he).1
  rw [List.getElem?_map, hkg i hi] at he
  exact ⟨hi, (Option.some.inj he).symm⟩
 refine .imm 0 sz false (ks.map cells) b o cap (fun i j => (pf i).2.getD j undef) (fun h => hl0 (by rw [← hcl, h]; rfl)) (start_con hb) (by rw [hcl]; exact hlc) hcm (fun h => by cases h) (fun h => absurd h (by omega)) (fun _ => hb)
  (fun e he => ?_) (fun i e j v hi hj => ?_) (fun i e j v hi hj => ?_) (fun i e j v hi hj => ?_)
 ·obtain ⟨i, hi⟩ := List.mem_iff_getElem?.1 he
  rw [(hgetc i e hi).2]; exact hlen _
 ·obtain ⟨_, rfl⟩ := hgetc i e hi
  exact alld1_at (hd1 _) j v hj
 ·obtain ⟨hi', rfl⟩ := hgetc i e hi
  have hj4 : j < sz := by rw [← hlen (pf i).1]; exact (List.getElem?_eq_some_iff.1 hj).1
  have := hcell i hi' j hj4
  rw [add_off, add_off, Nat.add_assoc] at this
  exact this
 obtain ⟨hi', rfl⟩ := hgetc i e hi
 exact (hpf i hi').2.2.2 j v hj

theorem tcells_len (t : LT) : t.cells.length = 4 := by cases t; rfl
theorem tcells_d1 (t : LT) : alld1 t.cells = true := by cases t; rfl

theorem read_t {TT : TypeId} {f0 f1 f2 f3 : Field} (hs : P.underlying TT = some (.struct #[f0, f1, f2, f3])) (hC : P.cellsOf TT = 4)
  (h0 : P.underlying f0.type = some (.int .i64) ∧ f0.offset = 0 ∧ P.cellsOf f0.type = 1) (h1 : P.underlying f1.type = some (.int .i64) ∧ f1.offset = 1 ∧ P.cellsOf f1.type = 1)
  (h2 : P.underlying f2.type = some .string ∧ f2.offset = 2 ∧ P.cellsOf f2.type = 1) (h3 : P.underlying f3.type = some (.slice TT) ∧ f3.offset = 3 ∧ P.cellsOf f3.type = 1) :
  ∀ (fuel : Nat) (cs : List Value) (x : DataW H × List MemPlace), DataW.trod enc P w 0 sp held fuel TT cs = some x →
   ∃ t : LT, (t.er.ok ∧ old t.toks) ∧ cs.length = 4 ∧ ∀ j v, t.cells[j]? = some v → RepC (start w) v (cs.getD j undef) := by
 intro fuel
 induction fuel using Nat.strongRecOn with
 | _ fuel ih =>
  intro cs x h
  obtain ⟨xs, n, rfl, hx, hl, hlen, hf⟩ := DataW.trod_struct hs h
  rw [hC] at hl
  have e0 := hf 0 f0 rfl
  have e1 := hf 1 f1 rfl
  have e2 := hf 2 f2 rfl
  have e3 := hf 3 f3 rfl
  rw [h0.2.1, h0.2.2] at e0
  rw [h1.2.1, h1.2.2] at e1
  rw [h2.2.1, h2.2.2] at e2
  rw [h3.2.1, h3.2.2] at e3
  match cs, hl, xs, hlen, e0, e1, e2, e3 with
  | [c0, c1, c2, c3], _, [y0, y1, y2, y3], _, e0, e1, e2, e3 =>
   simp at e0 e1 e2 e3
   obtain ⟨k, hk, _, wk⟩ := DataW.trod_int h0.1 e0
   obtain ⟨m, hm, _, wm⟩ := DataW.trod_int h1.1 e1
   obtain ⟨s, hss, _, ws⟩ := DataW.trod_string h2.1 e2
   simp only [List.cons.injEq, and_true] at hk hm hss
   subst hk hm hss
   obtain ⟨c', hc', ks, hks, hkl, hr⟩ := read_slice h3.1 hC (by omega) (cells := LT.cells) tcells_len tcells_d1 e3 (fun m hm => ih m (by omega))
   simp only [List.cons.injEq, and_true] at hc'
   subst hc'
   rw [← cellss_map] at hr
   refine ⟨.mk k m s 0 false ks, ⟨?_, ?_⟩, rfl, fun j v hj => ?_⟩
   ·unfold LT.er Go.Am.T.ok
    exact ⟨wf_range wk, wf_range wm, ws, by rw [ers_length]; exact hkl, fun t ht => by rw [ers_map] at ht; obtain ⟨t', h1, rfl⟩ := List.mem_map.1 ht; exact (hks t' h1).1⟩
   ·rw [LT.toks_eq]; exact old_tstoks fun t ht => (hks t ht).2
   simp only [LT.cells] at hj
   match j, hj with
   | 0, hj => cases hj; exact .int _ _
   | 1, hj => cases hj; exact .int _ _
   | 2, hj => cases hj; exact .str _
   | 3, hj => cases hj; exact hr
   | j + 4, hj => simp at hj
end

section
open Go.ChangeShapes
end

theorem calls_of_law {P : Program} {f : FuncId} {args : List AV} (h : ∀ tk, 2 ≤ tk → ACalls P f args (fun _ => none) tk (RetX (fun _ => none) tk (fun v _ => v = .bool true))) {us : Array Value} {w : World} (hl : us.size = args.length)
  (ha : ∀ j v, args[j]? = some v → RepC (start w) v (us.getD j undef)) (hk : args.all (fun v => argok v) = true) (hi : Inv w.heap.size w) :
  Calls P f us w fun e w' => e = .returned (.bool true) ∧ RowKit.Below w.heap.size w w' := by
 refine ((h 2 (Nat.le_refl _)).2 (start w) us rfl rfl (start_sim w) hi (fun x _ => rfl) hl (fun j v hj => argok_arg (.clo (ha j v hj)) (List.all_eq_true.1 hk v (List.mem_of_getElem? hj)))).mono fun e w' ⟨out, S', q1, q2, q3, q4, q5⟩ => ?_
 obtain ⟨_, _, v, rfl, rfl⟩ := q5
 subst q1
 obtain ⟨u, rfl, hu⟩ := q4
 cases hu
 exact ⟨rfl, start_below q3⟩

end Go.Am
