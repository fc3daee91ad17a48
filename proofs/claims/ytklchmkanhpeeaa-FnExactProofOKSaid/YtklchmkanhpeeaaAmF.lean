/- The abstract memory logic, sixth part: fields, elements, structs. -/
import Derived.Test.YtklchmkanhpeeaaAmE
import Derived.Laws.Build
namespace Go.Am
open Go

def afield (f : Nat × Nat) : AV → Option AV
  | .optr x i off => some (.optr x i (off + f.1))
  | .cptr cs => some (.cptr (cs.drop f.1))
  | _ => none

theorem add_off (b o n : Nat) : (⟨b, o, none⟩ : Addr).add n = ⟨b, o + n, none⟩ := by
  unfold Addr.add; split <;> simp_all

theorem rep_field {S : Sit} {f : Nat × Nat} {p v : AV} {u : Value} (hp : Rep S p u) (h : afield f p = some v) : ∃ b o, u = .pointer (some ⟨b, o, none⟩) ∧ Rep S v (.pointer (some ⟨b, o + f.1, none⟩)) := by
  unfold afield at h
  split at h
  · rename_i x i off
    cases h
    cases hp with
    | clo h => cases h
    | optr _ _ _ o ho =>
      refine ⟨_, _, rfl, ?_⟩
      rw [Nat.add_assoc]
      exact .optr x i (off + f.1) o ho
    | hidp _ _ _ sz h => exact ⟨_, _, rfl, by rw [Nat.add_assoc]; exact .hidp x i (off + f.1) sz h⟩
  · rename_i cs
    cases h
    have hr := rep_cptr hp
    cases hr with
    | cptr _ b o us hc hs h1 h2 =>
      refine ⟨b, o, rfl, .clo (.cptr _ b (o + f.1) (fun j => us (f.1 + j)) hc ?_ ?_ ?_)⟩
      · intro j x hj; rw [List.getElem?_drop] at hj; exact hs _ x hj
      · intro j x hj; rw [List.getElem?_drop] at hj; rw [Nat.add_assoc]; exact h1 _ x hj
      · intro j x hj; rw [List.getElem?_drop] at hj; exact h2 _ x hj
  · cases h

theorem fieldAddr_step {C : Ctx} {Γ : TTab} (hG : GOK C.P Γ) {σ : St} {o : Oper} {T : TypeId} {x : Operand} {k : Nat} (ho : o.op = .fieldAddr T x k) {p v : AV} (hx : oev σ.env x = some p)
    {i : TI} (hT : look T Γ = some i) {f : Nat × Nat} (hf : i.flds[k]? = some f) (h : afield f p = some v) : Pu C o σ v := by
  intro a w S hat
  obtain ⟨b, off, hu, hr⟩ := rep_field (oev_rep hat hx) h
  refine ⟨_, ?_, hr⟩
  have hK := hG T i hT
  rcases hK.fld with h0 | ⟨fs, hd, hfo, _⟩
  · rw [h0] at hf; simp at hf
  · obtain ⟨fl, hfl, hoff, hsz, hpos⟩ := hfo.at_ k f hf
    rw [Nat.zero_add] at hfl
    obtain ⟨ti, hti, hsz'⟩ := Option.map_eq_some_iff.1 hsz
    intro w1
    unfold execOp
    simp only [ho, hu, Instr.fieldAt, Sem.run_bind, run_underlying hK.und, Result.andThen_ok, hd]
    have hne : ¬ ti.size = 0 := by omega
    simp [hfl, Instr.sureAddr, fieldPlace, sizeOf, typeInfo, hti, hne, hoff, add_off]

/-- A slice's element, as a place. -/
def aindex (H : Heap) (n : Nat) : AV → Option AV
  | .imm _ _ _ es => match es[n]? with
    | some e => some (.cptr e)
    | none => none
  | .osl x => match H x with
    | some o => match decide (n < o.es.length) with
      | true => some (.optr x n 0)
      | false => none
    | none => none
  | _ => none

theorem indexAddr_step {C : Ctx} {Γ : TTab} (hG : GOK C.P Γ) {σ : St} {o : Oper} {T : TypeId} {x y : Operand} (ho : o.op = .indexAddr T x y) {p v : AV} {k : IntKind} {n : Nat} (hx : oev σ.env x = some p)
    (hy : oev σ.env y = some (.int k n)) {i j : TI} {e : TypeId} (hT : look T Γ = some i) (hd : i.desc = .slice e) (he : look e Γ = some j)
    (hsz : match p with
      | .imm _ sz _ _ => sz = j.size
      | .osl z => ∀ ob, C.heap σ z = some ob → ob.sz = j.size
      | _ => True) (h : aindex (C.heap σ) n p = some v) : Pu C o σ v := by
  intro a w S hat
  have rx := oev_rep hat hx
  have uy := rep_int (oev_rep hat hy)
  have hU := (hG T i hT).und
  rw [hd] at hU
  have hel : C.P.elem T = e := by simp [Program.elem, hU]
  have hU' : C.P.underlying T = some (.slice (C.P.elem T)) := by rw [hel]; exact hU
  unfold aindex at h
  split at h
  · rename_i tok sz full es
    split at h
    · rename_i c hc
      cases h
      have hr := rep_imm rx
      have hlt := (List.getElem?_eq_some_iff.1 hc).1
      generalize hgu : a.eval x = u at hr
      cases hr with
      | imm0 => simp at hc
      | imm _ _ _ _ b off cap us hne hcon hl hm hf ht h0 hsz' hs h1 h2 =>
        simp only at hsz
        refine ⟨.pointer (some ⟨b, off + n * sz, none⟩), ?_, .clo (.cptr c b (off + n * sz) (us n) hcon (fun j x hj => hs n c j x hc hj) (fun j x hj => ?_) (fun j x hj => h2 n c j x hc hj))⟩
        · intro w1
          unfold execOp
          simp only [ho, hgu, uy, Sem.run_bind, run_indexAt_slice w1 T _ _ _ _ _ hU', hel, sizeOf_run (hG e j he)]
          rw [if_pos ⟨by omega, by omega⟩]
          simp [add_off, hsz]
        · rw [Nat.add_assoc]; exact h1 n c j x hc hj
    · cases h
  · rename_i z
    obtain ⟨ob, c, cur, hob, hb, hw, hcs, hl, hm, hu⟩ := rep_osl rx
    rw [← hat.O, hob] at h
    simp only at h
    split at h
    · rename_i hlt
      cases h
      have hlt := of_decide_eq_true hlt
      have hz : ob.sz = j.size := hsz ob (by rw [← hat.O]; exact hob)
      refine ⟨_, ?_, .optr z n 0 ob hob⟩
      intro w1
      unfold execOp
      simp only [ho, hu, uy, Sem.run_bind, run_indexAt_slice w1 T _ _ _ _ _ hU', hel, sizeOf_run (hG e j he)]
      rw [if_pos ⟨by omega, by omega⟩]
      simp [add_off, hz]
    · cases h
  · cases h

/-- Cells put over others. -/
def setF : Nat → List AV → List AV → Option (List AV)
  | 0, [], l => some l
  | 0, _ :: _, [] => none
  | 0, c :: cs, _ :: l => match force c with
    | some x => match setF 0 cs l with
      | some r => some (x :: r)
      | none => none
    | none => none
  | _ + 1, _, [] => none
  | n + 1, cs, x :: l => match setF n cs l with
    | some r => some (x :: r)
    | none => none

theorem setF_spec : ∀ {n : Nat} {cs l r : List AV}, setF n cs l = some r → r.length = l.length ∧ n + cs.length ≤ l.length ∧ ∀ j : Nat, r[j]? = if n ≤ j ∧ j < n + cs.length then cs[j - n]? else l[j]?
  | 0, [], l, r, h => by
    simp [setF] at h; subst h
    refine ⟨rfl, by simp, fun j => ?_⟩
    rw [if_neg (by simp)]
  | 0, c :: cs, [], r, h => by simp [setF] at h
  | 0, c :: cs, x :: l, r, h => by
    unfold setF at h
    split at h
    · rename_i y hy
      split at h
      · rename_i r' hr'
        cases h
        obtain ⟨h1, h2, h3⟩ := setF_spec hr'
        rw [force_eq hy]
        refine ⟨by simp [h1], by simp at h2 ⊢; omega, fun j => ?_⟩
        cases j with
        | zero => simp
        | succ j =>
          have := h3 j
          simp only [List.getElem?_cons_succ, this, List.length_cons, Nat.zero_add, Nat.zero_le, true_and, Nat.sub_zero]
          by_cases hj : j < cs.length <;> simp [hj]
      · cases h
    · cases h
  | n + 1, cs, [], r, h => by simp [setF] at h
  | n + 1, cs, x :: l, r, h => by
    unfold setF at h
    split at h
    · rename_i r' hr'
      cases h
      obtain ⟨h1, h2, h3⟩ := setF_spec hr'
      refine ⟨by simp [h1], by simp; omega, fun j => ?_⟩
      cases j with
      | zero => simp
      | succ j =>
        have := h3 j
        simp only [List.getElem?_cons_succ, this]
        by_cases hj : n ≤ j ∧ j < n + cs.length
        · rw [if_pos hj, if_pos (by omega), show j + 1 - (n + 1) = j - n by omega]
        · rw [if_neg hj, if_neg (by omega)]
    · cases h

/-- A value's cells. -/
def cellsOf : AV → Option (List AV)
  | .agg cs => some cs
  | v => match force v with
    | some x => some [x]
    | none => none

theorem cellsOf_rep {S : Sit} {v : AV} {u : Value} {cs : List AV} (hr : Rep S v u) (h : cellsOf v = some cs) : u.cells.size = cs.length ∧ (∀ j x, cs[j]? = some x → Rep S x (u.cells.getD j undef)) := by
  unfold cellsOf at h
  split at h
  · cases h
    obtain ⟨us, rfl, hl, _, h⟩ := rep_agg hr
    exact ⟨by simpa [Value.cells] using hl, fun j x hx => by simpa [Value.cells] using h j x hx⟩
  · rename_i hna
    split at h
    · rename_i x hx
      cases h
      have hx := force_eq hx
      subst hx
      have hc : u.cells = #[u] := by
        cases hr with
        | any => simp [force] at hx
        | jnk => simp [force] at hx
        | clo h => cases h <;> first | rfl | (exact absurd rfl (hna _))
        | optr => rfl
        | hidp => rfl
        | osl => rfl
        | fn => rfl
        | agg cs _ _ _ _ => exact absurd rfl (hna cs)
        | tup => simp [force] at hx
      rw [hc]
      refine ⟨rfl, fun j y hy => ?_⟩
      cases j with
      | zero => simp at hy; subst hy; simpa using hr
      | succ j => simp at hy
    · cases h

end Go.Am
