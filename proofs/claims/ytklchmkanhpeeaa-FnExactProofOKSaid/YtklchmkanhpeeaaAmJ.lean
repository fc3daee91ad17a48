/- The abstract memory logic, tenth part: structs and slices built, boxes made. -/
import Derived.Test.YtklchmkanhpeeaaAmI
namespace Go.Am
open Go

theorem fold_set (off : Nat) : ∀ (vs : List Value) (n : Nat) (cs : Array Value), off + n + vs.length ≤ cs.size →
    ((vs.zipIdx n).foldl (fun cs (x : Value × Nat) => cs.setIfInBounds (off + x.2) x.1) cs).size = cs.size ∧
    ∀ k : Nat, ((vs.zipIdx n).foldl (fun cs (x : Value × Nat) => cs.setIfInBounds (off + x.2) x.1) cs)[k]? = if off + n ≤ k ∧ k < off + n + vs.length then vs[k - (off + n)]? else cs[k]?
  | [], n, cs, h => by
    refine ⟨rfl, fun k => ?_⟩
    rw [if_neg (by simp only [List.length_nil]; omega)]
    rfl
  | v :: vs, n, cs, h => by
    simp only [List.length_cons] at h
    obtain ⟨h1, h2⟩ := fold_set off vs (n + 1) (cs.setIfInBounds (off + n) v) (by simp; omega)
    simp only [List.zipIdx_cons, List.foldl_cons, Array.size_setIfInBounds] at h1 h2 ⊢
    refine ⟨h1, fun k => ?_⟩
    rw [h2 k]
    simp only [List.length_cons]
    by_cases hk : k = off + n
    · subst hk
      rw [if_neg (by omega), if_pos (by omega)]
      simp [show off + n < cs.size by omega]
    · by_cases hr : off + (n + 1) ≤ k ∧ k < off + (n + 1) + vs.length
      · rw [if_pos hr, if_pos (by omega), show k - (off + n) = (k - (off + (n + 1))) + 1 by omega]
        rfl
      · rw [if_neg hr, if_neg (by omega)]
        simp [Ne.symm hk]

theorem fill_cons {place : Nat → Option (Nat × Nat)} {cells : Array Value} {i : Nat} {v : Value} {rest : List (Nat × Value)} {off : Nat} (hp : place i = some (off, v.cells.size)) (hfit : off + v.cells.size ≤ cells.size) :
    ∃ cells' : Array Value, Instr.fill place cells ((i, v) :: rest) = Instr.fill place cells' rest ∧ cells'.size = cells.size ∧
      ∀ k : Nat, cells'[k]? = if off ≤ k ∧ k < off + v.cells.size then v.cells[k - off]? else cells[k]? := by
  have hne : ¬ (off + v.cells.size > cells.size) := by omega
  obtain ⟨h1, h2⟩ := fold_set off v.cells.toList 0 cells (by simpa using hfit)
  refine ⟨_, ?_, h1, fun k => ?_⟩
  · conv => lhs; unfold Instr.fill
    simp only [hp, ne_eq, not_true_eq_false, decide_false, Bool.false_or, decide_eq_true_eq, if_neg hne]
    congr 1
    rw [← Array.foldl_toList, Array.toList_zipIdx]
  · have := h2 k
    simpa using this

/-- Parts laid over the zero value's cells. -/
def afill (flds : List (Nat × Nat)) : List (Nat × AV) → List AV → Option (List AV)
  | [], cells => some cells
  | (k, v) :: r, cells => match flds[k]? with
    | some p => match cellsOf v with
      | some cs => match Nat.beq cs.length p.2 with
        | true => match alld1 cs with
          | true => match setF p.1 cs cells with
            | some cells' => afill flds r cells'
            | none => none
          | false => none
        | false => none
      | none => none
    | none => none

theorem afill_rep {S : Sit} {flds : List (Nat × Nat)} {place : Nat → Option (Nat × Nat)} (hpl : ∀ (k : Nat) (p : Nat × Nat), flds[k]? = some p → place k = some p) :
    ∀ {ps : List (Nat × AV)} {us : List (Nat × Value)} {cells : List AV} {ucells : Array Value} {r : List AV}, afill flds ps cells = some r → us.map (·.1) = ps.map (·.1) →
      (∀ (i : Nat) (p : Nat × AV) (u : Nat × Value), ps[i]? = some p → us[i]? = some u → Rep S p.2 u.2) → ucells.size = cells.length →
      (∀ (j : Nat) (x : AV), cells[j]? = some x → x.d1 = true ∧ ∃ u, ucells[j]? = some u ∧ Rep S x u) →
      ∃ out : Array Value, Instr.fill place ucells us = some out ∧ out.size = r.length ∧ r.length = cells.length ∧ ∀ (j : Nat) (x : AV), r[j]? = some x → x.d1 = true ∧ ∃ u, out[j]? = some u ∧ Rep S x u
  | [], us, cells, ucells, r, h, hk, _, hs, hc => by
    simp at hk
    subst hk
    simp [afill] at h
    subst h
    exact ⟨ucells, rfl, hs, rfl, hc⟩
  | (k, v) :: ps, us, cells, ucells, r, h, hk, hr, hs, hc => by
    cases us with
    | nil => simp at hk
    | cons u us =>
      simp only [List.map_cons, List.cons.injEq] at hk
      obtain ⟨i, uv⟩ := u
      obtain ⟨rfl, hk⟩ := hk
      unfold afill at h
      split at h
      · rename_i p hp
        split at h
        · rename_i cs hcs
          split at h
          · rename_i hb
            split at h
            · rename_i hd
              split at h
              · rename_i cells' hset
                have hb := Nat.eq_of_beq_eq_true hb
                have hd := alld1_at hd
                obtain ⟨f1, f2, f3⟩ := setF_spec hset
                have rv : Rep S v uv := hr 0 _ _ rfl rfl
                obtain ⟨c1, c2⟩ := cellsOf_rep rv hcs
                obtain ⟨out1, e1, e2, e3⟩ := fill_cons (place := place) (cells := ucells) (i := i) (v := uv) (rest := us) (off := p.1) (by rw [hpl i p hp, c1, hb]) (by rw [c1, hs]; exact f2)
                rw [e1]
                obtain ⟨out, g1, g2, g3, g4⟩ := afill_rep hpl (ps := ps) (us := us) (cells := cells') (ucells := out1) h hk (fun j p u hj hu => hr (j + 1) p u hj hu) (by rw [e2, f1, hs]) (fun j x hj => by
                  rw [f3 j] at hj
                  rw [e3 j, c1]
                  by_cases hin : p.1 ≤ j ∧ j < p.1 + cs.length
                  · rw [if_pos hin] at hj ⊢
                    refine ⟨hd _ x hj, uv.cells.getD (j - p.1) undef, ?_, c2 _ x hj⟩
                    have : j - p.1 < uv.cells.size := by omega
                    simp [Array.getD, this]
                  · rw [if_neg hin] at hj ⊢
                    exact hc j x hj)
                exact ⟨out, g1, g2, g3.trans f1, g4⟩
              · cases h
            · cases h
          · cases h
        · cases h
      · cases h

theorem zval_rep {S : Sit} {v : AV} (h : zok v = true) : RepC S v (zval v) ∧ v.d1 = true := by
  unfold zok at h
  split at h
  · exact ⟨.int _ _, rfl⟩
  · exact ⟨.bool _, rfl⟩
  · exact ⟨.str _, rfl⟩
  · exact ⟨.nilp, rfl⟩
  · exact ⟨.imm0 _ _ _ _ _ (fun _ => rfl) (Nat.zero_le _), rfl⟩
  · exact ⟨.nilfn, rfl⟩
  · exact ⟨.nilif, rfl⟩
  · cases h

theorem zero_rep {P : Program} {T : TypeId} {i : TI} (h : TOK P T i) (S : Sit) : ∃ ti z, P.info? T = some ti ∧ ti.size = i.size ∧ ti.bytes = i.bytes ∧ ti.zero = some z ∧ z.cells.size = i.zero.length ∧
    ∀ (j : Nat) (x : AV), i.zero[j]? = some x → x.d1 = true ∧ ∃ u, z.cells[j]? = some u ∧ RepC S x u := by
  obtain ⟨ti, z, h1, h2, h3, h4, h5⟩ := h.info
  refine ⟨ti, z, h1, h2, h3, h4, by rw [h5]; simp, fun j x hj => ?_⟩
  have := zval_rep (S := S) (List.all_eq_true.1 h.zk x (List.mem_of_getElem? hj))
  exact ⟨this.2, zval x, by rw [h5]; simp [hj], this.1⟩

def oevp (env : List (Nat × AV)) : List (Nat × Operand) → Option (List (Nat × AV))
  | [] => some []
  | (k, x) :: r => match oev env x with
    | some v => match oevp env r with
      | some vs => some ((k, v) :: vs)
      | none => none
    | none => none

theorem oevp_rep {C : Ctx} {σ : St} {a : Act} {w : World} {S : Sit} (hat : At C σ a w S) : ∀ {xs : List (Nat × Operand)} {vs : List (Nat × AV)}, oevp σ.env xs = some vs →
    (xs.map fun x => (x.1, a.eval x.2)).map (·.1) = vs.map (·.1) ∧ ∀ (j : Nat) (p : Nat × AV) (u : Nat × Value), vs[j]? = some p → (xs.map fun x => (x.1, a.eval x.2))[j]? = some u → Rep S p.2 u.2
  | [], vs, h => by cases h; exact ⟨rfl, fun j v u hj => by simp at hj⟩
  | (k, x) :: r, vs, h => by
    unfold oevp at h
    split at h
    · rename_i v hv
      split at h
      · rename_i vs' hvs
        cases h
        obtain ⟨h1, h2⟩ := oevp_rep hat hvs
        refine ⟨by simpa using h1, fun j p u hj hu => ?_⟩
        cases j with
        | zero => simp at hj hu; subst hj; subst hu; exact oev_rep hat hv
        | succ j => exact h2 j p u (by simpa using hj) (by simpa using hu)
      · cases h
    · cases h

theorem build_step {C : Ctx} {Γ : TTab} (hG : GOK C.P Γ) {σ : St} {o : Oper} {T : TypeId} {ps : List (Nat × Operand)} (ho : o.op = .build T ps.toArray) {vs : List (Nat × AV)} (hv : oevp σ.env ps = some vs)
    {i : TI} (hT : look T Γ = some i) (hf : i.flds ≠ []) {cells : List AV} (h : afill i.flds vs i.zero = some cells) : Pu C o σ (.agg cells) := by
  intro a w S hat
  have hK := hG T i hT
  obtain ⟨v1, v2⟩ := oevp_rep hat hv
  obtain ⟨ti, z, z1, z2, z3, z4, z5, z6⟩ := zero_rep hK S
  rcases hK.fld with h0 | ⟨fs, hd, hfo, hfl⟩
  · exact absurd h0 hf
  · have hplaces : fs.toList.mapM (fun f => (C.P.info? f.type).map fun i => (f.offset, i.size)) = some i.flds := by
      have key : ∀ (l : List (Nat × Nat)) (k : Nat) (fl : List Field), FOK C.P fs k l → fs.toList.drop k = fl → fl.length = l.length → fl.mapM (fun f => (C.P.info? f.type).map fun i => (f.offset, i.size)) = some l := by
        intro l
        induction l with
        | nil => intro k fl _ _ hl; simp at hl; subst hl; rfl
        | cons p r ih =>
          intro k fl hf' hdr hl
          cases fl with
          | nil => simp at hl
          | cons f fl =>
            obtain ⟨⟨g, g1, g2, g3, _⟩, hrest⟩ := hf'
            have hfg : f = g := by
              have : (fs.toList.drop k)[0]? = some f := by rw [hdr]; rfl
              rw [List.getElem?_drop] at this
              simp only [Nat.add_zero, Array.getElem?_toList] at this
              rw [g1] at this; cases this; rfl
            subst hfg
            obtain ⟨ti', t1, t2⟩ := Option.map_eq_some_iff.1 g3
            have := ih (k + 1) fl hrest (by rw [← List.tail_drop, hdr]; rfl) (by simpa using hl)
            simp [t1, this, g2, t2]
      exact key i.flds 0 fs.toList hfo (by simp) (by simpa using hfl)
    obtain ⟨out, o1, o2, o3, o4⟩ := afill_rep (S := S) (place := fun (k : Nat) => i.flds[k]?) (fun k p hp => hp) h v1 v2 (by rw [z5]) (fun j x hj => let ⟨q1, u, q2, q3⟩ := z6 j x hj; ⟨q1, u, q2, .clo q3⟩)
    refine ⟨.agg out, ?_, .agg cells out o2 (fun j x hj => (o4 j x hj).1) (fun j x hj => ?_)⟩
    · have hb : C.P.built T (ps.map fun x => (x.1, a.eval x.2)) = some out := by
        unfold Program.built
        simp only [z1, hK.und, hd, z4, hplaces]
        have : (fun (x : Nat) => i.flds.toArray[x]?) = fun (k : Nat) => i.flds[k]? := by funext k; simp
        rw [this]
        exact o1
      intro w1
      unfold execOp
      simp only [ho, Sem.run_bind]
      rw [run_build w1 T _ out (by simpa using hb)]
      rfl
    · obtain ⟨_, u, hu, hr⟩ := o4 j x hj
      simpa [hu] using hr

/-- A box. -/
theorem box_step {C : Ctx} {σ : St} {o : Oper} {T : TypeId} {x : Operand} (ho : o.op = .box T x) {d : Nat} (hfree : look d σ.l = none) {v : AV} (hx : oev σ.env x = some v) {cs : List AV} (hcs : cellsOf v = some cs) (hd : alld1 cs = true) :
    Step C [] o σ (.optr (.loc d) 0 0) ⟨σ.env, (d, ⟨T, cs.length, true, [cs]⟩) :: σ.l, σ.b, σ.O, σ.tk⟩ := by
  intro a w S hat
  have rv := oev_rep hat hx
  obtain ⟨c1, c2⟩ := cellsOf_rep rv hcs
  have hd' := alld1_at hd
  obtain ⟨S', hat', hmov, hβ, hO⟩ := hat.add hfree ⟨T, cs.length, true, [cs]⟩ (a.eval x).cells (by simp; omega) (fun _ => ⟨rfl, c1⟩) (fun e he => by simp at he; subst he; rfl)
    (fun i e j v hi hj => by
      have h0 : i = 0 := by have := (List.getElem?_eq_some_iff.1 hi).1; simp at this; omega
      subst h0
      simp at hi
      subst hi
      have hjl := (List.getElem?_eq_some_iff.1 hj).1
      refine ⟨hd' j v hj, (a.eval x).cells.getD j undef, ?_, c2 j v hj, fun h => by cases h⟩
      rw [← c1] at hjl
      simp [Array.getD, hjl]) _ (.inr rfl)
  refine ⟨.pointer (some ⟨w.heap.size, 0, none⟩), _, S', .inl ?_, hat', ?_, keep_alloc hmov (.inl (by rw [hat'.w, hat.w]))⟩
  · unfold execOp
    simp [ho, Instr.box, newVar, newRow]
  · have := Rep.optr (S := S') (.loc d) 0 0 _ hO
    simpa [hβ] using this

theorem alloc_step {C : Ctx} {Γ : TTab} (hG : GOK C.P Γ) {σ : St} {o : Oper} {T : TypeId} (ho : o.op = .alloc T) {d : Nat} (hfree : look d σ.l = none) {i : TI} (hT : look T Γ = some i) :
    Step C [] o σ (.optr (.loc d) 0 0) ⟨σ.env, (d, ⟨T, i.size, true, [i.zero]⟩) :: σ.l, σ.b, σ.O, σ.tk⟩ := by
  intro a w S hat
  have hK := hG T i hT
  obtain ⟨ti, z, z1, z2, z3, z4, z5, z6⟩ := zero_rep hK S
  obtain ⟨S', hat', hmov, hβ, hO⟩ := hat.add hfree ⟨T, i.size, true, [i.zero]⟩ z.cells (by simp [z5, hK.zl]) (fun _ => ⟨rfl, by rw [z5, hK.zl]⟩) (fun e he => by simp at he; subst he; exact hK.zl)
    (fun k e j v hi hj => by
      have h0 : k = 0 := by have := (List.getElem?_eq_some_iff.1 hi).1; simp at this; omega
      subst h0
      simp at hi
      subst hi
      obtain ⟨q1, u, q2, q3⟩ := z6 j v hj
      exact ⟨q1, u, by simpa using q2, .clo q3, fun h => by cases h⟩) _ (.inr rfl)
  refine ⟨.pointer (some ⟨w.heap.size, 0, none⟩), _, S', .inl ?_, hat', ?_, keep_alloc hmov (.inl (by rw [hat'.w, hat.w]))⟩
  · unfold execOp
    simp [ho, Instr.alloc, newVar, newRow, zeroValue, typeInfo, z1, z4]
  · have := Rep.optr (S := S') (.loc d) 0 0 _ hO
    simpa [hβ] using this

end Go.Am
