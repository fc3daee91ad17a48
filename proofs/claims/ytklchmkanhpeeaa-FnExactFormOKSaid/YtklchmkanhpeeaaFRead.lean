/- How an argument of a law is read: a form or a type in old memory. -/
import Derived.Test.YtklchmkanhpeeaaRead
import Derived.Test.YtklchmkanhpeeaaFTree
namespace Go.Am
open Go

instance : Inhabited LF := ⟨.mk 0 0 0 false []⟩

section
open Go.ChangeShapes
variable {H : Type} {enc : TypeId × Value → H} {P : Program} {w : World} {sp : Nat → Bool} {held : Bool}

/-- A tree in old memory. -/
theorem read_ftree {TT : TypeId} {f0 f1 f2 : Field} (hs : P.underlying TT = some (.struct #[f0, f1, f2])) (hC : P.cellsOf TT = 3)
    (h0 : P.underlying f0.type = some (.int .i64) ∧ f0.offset = 0 ∧ P.cellsOf f0.type = 1) (h1 : P.underlying f1.type = some (.int .i64) ∧ f1.offset = 1 ∧ P.cellsOf f1.type = 1)
    (h2 : P.underlying f2.type = some (.slice TT) ∧ f2.offset = 2 ∧ P.cellsOf f2.type = 1) :
    ∀ (fuel : Nat) (cs : List Value) (x : DataW H × List MemPlace), DataW.trod enc P w 0 sp held fuel TT cs = some x →
      ∃ t : LF, t.er.ok ∧ cs.length = 3 ∧ ∀ j v, t.cells[j]? = some v → RepC (start w) v (cs.getD j undef) := by
  intro fuel
  induction fuel using Nat.strongRecOn with
  | _ fuel ih =>
    intro cs x h
    obtain ⟨xs, n, rfl, hx, hl, hlen, hf⟩ := DataW.trod_struct hs h
    rw [hC] at hl
    have e0 := hf 0 f0 rfl
    have e1 := hf 1 f1 rfl
    have e2 := hf 2 f2 rfl
    rw [h0.2.1, h0.2.2] at e0
    rw [h1.2.1, h1.2.2] at e1
    rw [h2.2.1, h2.2.2] at e2
    match cs, hl, xs, hlen, e0, e1, e2 with
    | [c0, c1, c2], _, [y0, y1, y2], _, e0, e1, e2 =>
      simp at e0 e1 e2
      obtain ⟨k, hk, _, wk⟩ := DataW.trod_int h0.1 e0
      obtain ⟨m, hm, _, wm⟩ := DataW.trod_int h1.1 e1
      simp only [List.cons.injEq, and_true] at hk hm
      subst hk hm
      have fin : ∀ ks : List LF, (∀ t ∈ ks, t.er.ok) → ks.length ≤ maxLen → RepC (start w) (.imm 0 3 false (fcellss ks)) c2 → ∃ t : LF, t.er.ok ∧ [Value.int .i64 k, Value.int .i64 m, c2].length = 3 ∧ ∀ j v, t.cells[j]? = some v → RepC (start w) v ([Value.int .i64 k, Value.int .i64 m, c2].getD j undef) := by
        intro ks hks hkl hr
        refine ⟨.mk k m 0 false ks, ?_, rfl, fun j v hj => ?_⟩
        · unfold LF.er Go.Am.F.ok
          exact ⟨wf_range wk, wf_range wm, by rw [fers_length]; exact hkl, fun t ht => by rw [fers_map] at ht; obtain ⟨t', h1, rfl⟩ := List.mem_map.1 ht; exact hks t' h1⟩
        · simp only [LF.cells] at hj
          match j, hj with
          | 0, hj => cases hj; exact .int _ _
          | 1, hj => cases hj; exact .int _ _
          | 2, hj => cases hj; exact hr
          | j + 3, hj => simp at hj
      rcases DataW.trod_slice h2.1 e2 with ⟨hc3, _⟩ | ⟨a, len, cap, elems, rest, m', rfl, hc3, _, _, hlc, hcm, hel, hget, _, _⟩
      · simp only [List.cons.injEq, and_true] at hc3
        subst hc3
        exact fin [] (fun t ht => by cases ht) (Nat.zero_le _) (.imm0 _ _ _ _ _ (fun h => by cases h) (Nat.zero_le _))
      · simp only [List.cons.injEq, and_true] at hc3
        subst hc3
        have each : ∀ i : Nat, ∃ p : LF × List Value, i < len → p.1.er.ok ∧ w.cells? 0 (a.add (i * 3)) 3 = some p.2 ∧ p.2.length = 3 ∧ ∀ j v, p.1.cells[j]? = some v → RepC (start w) v (p.2.getD j undef) := by
          intro i
          by_cases hi : i < len
          · have g := hget i hi
            rw [List.getElem?_eq_getElem (by omega), hC] at g
            obtain ⟨cs', g1, g2⟩ := Option.bind_eq_some_iff.1 g
            obtain ⟨t, t1, t2, t3⟩ := ih m' (by omega) cs' _ g2
            exact ⟨(t, cs'), fun _ => ⟨t1, g1, t2, t3⟩⟩
          · exact ⟨default, fun h => absurd h hi⟩
        let pf : Nat → LF × List Value := fun i => Classical.choose (each i)
        have hpf : ∀ i, i < len → (pf i).1.er.ok ∧ w.cells? 0 (a.add (i * 3)) 3 = some (pf i).2 ∧ (pf i).2.length = 3 ∧ ∀ j v, (pf i).1.cells[j]? = some v → RepC (start w) v ((pf i).2.getD j undef) := fun i => Classical.choose_spec (each i)
        clear_value pf
        have hcell : ∀ i, i < len → ∀ j, j < 3 → w.cell? ((a.add (i * 3)).add j) = some ((pf i).2.getD j undef) := by
          intro i hi j hj
          obtain ⟨_, g1, g2, _⟩ := hpf i hi
          obtain ⟨_, _, g3⟩ := World.cells?_some g1
          have := g3 j hj
          rw [this]
          simp [List.getD_eq_getElem?_getD, List.getElem?_eq_getElem (show j < (pf i).2.length by omega)]
        let ks : List LF := (List.range len).map fun i => (pf i).1
        have hkl : ks.length = len := by simp [ks]
        have hkg : ∀ i, i < len → ks[i]? = some (pf i).1 := fun i hi => by simp [ks, hi]
        refine fin ks (fun t ht => ?_) (by rw [hkl]; omega) ?_
        · obtain ⟨i, hi, rfl⟩ := List.mem_map.1 ht
          exact (hpf i (List.mem_range.1 hi)).1
        · by_cases hl0 : len = 0
          · have : ks = [] := List.length_eq_zero_iff.1 (by omega)
            rw [this, hl0]
            exact .imm0 _ _ _ _ _ (fun h => by cases h) hcm
          · have hspot : a.spot = none := by
              have h00 := hcell 0 (by omega) 0 (by omega)
              have := spot_of_cell h00
              obtain ⟨b, o, s⟩ := a
              cases s with
              | none => rfl
              | some s => simp [Addr.add] at this
            obtain ⟨b, o, s⟩ := a
            subst hspot
            have hb : b < w.heap.size := by
              have h00 := hcell 0 (by omega) 0 (by omega)
              rw [add_off, add_off] at h00
              unfold World.cell? at h00
              split at h00
              · rename_i hh; exact (Array.getElem?_eq_some_iff.1 hh).1
              · cases h00
            have hcl : (fcellss ks).length = len := by rw [fcellss_length, hkl]
            rw [← hcl]
            have hgetc : ∀ (i : Nat) (e : List AV), (fcellss ks)[i]? = some e → i < len ∧ e = (pf i).1.cells := by
              intro i e he
              have hi : i < len := by rw [← hcl]; exact (List.getElem?_eq_some_iff.1 he).1
              rw [fcellss_get (hkg i hi)] at he
              exact ⟨hi, (Option.some.inj he).symm⟩
            refine .imm 0 3 false (fcellss ks) b o cap (fun i j => (pf i).2.getD j undef) (fun h => hl0 (by rw [← hcl, h]; rfl)) (start_con hb) (by rw [hcl]; exact hlc) hcm (fun h => by cases h) (fun h => absurd h (by omega)) (fun _ => hb)
              (fun e he => ?_) (fun i e j v hi hj => ?_) (fun i e j v hi hj => ?_) (fun i e j v hi hj => ?_)
            · obtain ⟨i, hi⟩ := List.mem_iff_getElem?.1 he
              rw [(hgetc i e hi).2]; exact fcells_length _
            · obtain ⟨_, rfl⟩ := hgetc i e hi
              exact alld1_at (fcells_d1 _) j v hj
            · obtain ⟨hi', rfl⟩ := hgetc i e hi
              have hj4 : j < 3 := by rw [← fcells_length (pf i).1]; exact (List.getElem?_eq_some_iff.1 hj).1
              have := hcell i hi' j hj4
              rw [add_off, add_off, Nat.add_assoc] at this
              exact this
            · obtain ⟨hi', rfl⟩ := hgetc i e hi
              exact (hpf i hi').2.2.2 j v hj
end

end Go.Am
