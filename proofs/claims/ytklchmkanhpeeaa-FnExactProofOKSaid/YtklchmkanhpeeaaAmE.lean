/- The abstract memory logic, fifth part: the other operations that read alone. -/
import Derived.Test.YtklchmkanhpeeaaAmD
namespace Go.Am
open Go

theorem move_step {C : Ctx} {σ : St} {o : Oper} {x : Operand} (ho : o.op = .move x ∨ o.op = .assign x) {v : AV} (hx : oev σ.env x = some v) : Pu C o σ v := by
  refine fun a w S hat => ⟨a.eval x, ?_, oev_rep hat hx⟩
  intro w1
  rcases ho with ho | ho <;> (unfold execOp; simp [ho])

theorem pick_step {C : Ctx} {σ : St} {o : Oper} {c x y : Operand} (ho : o.op = .pick c x y) {b : Bool} {v : AV} (hc : oev σ.env c = some (.bool b)) (hx : oev σ.env (if b then x else y) = some v) : Pu C o σ v := by
  refine fun a w S hat => ⟨a.eval (if b then x else y), ?_, oev_rep hat hx⟩
  have hb := rep_bool (oev_rep hat hc)
  intro w1
  unfold execOp
  cases b <;> simp [ho, hb, asBool]

theorem nilCheck_step {C : Ctx} {σ : St} {o : Oper} {x : Operand} (ho : o.op = .nilCheck x) {v : AV} (hx : oev σ.env x = some v) (hk : ∃ cs, cellsAt (C.heap σ) v = some cs) : Pu C o σ v := by
  obtain ⟨cs, hk⟩ := hk
  refine fun a w S hat => ⟨a.eval x, ?_, oev_rep hat hx⟩
  obtain ⟨b, off, hu, _⟩ := cellsAt_rep hat (oev_rep hat hx) hk
  intro w1
  unfold execOp
  simp [ho, hu]

theorem cmpI_run {op : BinOp} {x y : Int} {v : AV} (h : cmpI op x y = some v) : ∃ b, v = .bool b ∧ ∀ (P : Program) (w : World), (Op.intCmp op x y).run P w = .ok (.bool b) w := by
  unfold cmpI at h
  split at h <;> cases h <;> exact ⟨_, rfl, fun P w => by simp [Op.intCmp]⟩

theorem abin_step {C : Ctx} {σ : St} {o : Oper} {op : BinOp} {T T' : TypeId} {x y : Operand} (ho : o.op = .binOp op T x y T') {p q v : AV} (hx : oev σ.env x = some p) (hy : oev σ.env y = some q) (h : abin op p q = some v)
    (hnb : ∀ b, p ≠ .bool b) : Pu C o σ v := by
  intro a w S hat
  have rx := oev_rep hat hx
  have ry := oev_rep hat hy
  unfold abin at h
  split at h
  · rename_i k m k' n
    split at h
    · rename_i hk
      have hk := of_decide_eq_true hk
      subst hk
      have ux := rep_int rx
      have uy := rep_int ry
      unfold arI at h
      unfold execOp
      simp only [ho, ux, uy, eqGuard_at_int]
      split at h
      · cases h; exact ⟨_, fun w1 => by simp [binOp, Op.intArith], .clo (.int _ _)⟩
      · cases h; exact ⟨_, fun w1 => by simp [binOp, Op.intArith], .clo (.int _ _)⟩
      · cases h; exact ⟨_, fun w1 => by simp [binOp, Op.intArith], .clo (.int _ _)⟩
      · split at h
        · rename_i hz
          cases h
          have hz := of_decide_eq_false hz
          exact ⟨_, fun w1 => by simp [binOp, Op.intDiv, hz], .clo (.int _ _)⟩
        · cases h
      · split at h
        · rename_i hz
          cases h
          have hz := of_decide_eq_false hz
          exact ⟨_, fun w1 => by simp [binOp, Op.intDiv, hz], .clo (.int _ _)⟩
        · cases h
      · obtain ⟨b, rfl, hb⟩ := cmpI_run h
        refine ⟨.bool b, ?_, .clo (.bool _)⟩
        intro w1
        have := hb C.P w1
        unfold cmpI at h
        split at h <;> simp_all [binOp]
    · cases h
  · rename_i s t
    have ux := rep_str rx
    have uy := rep_str ry
    unfold cmpS at h
    unfold execOp
    simp only [ho, ux, uy, eqGuard_at_string]
    split at h <;> cases h <;> exact ⟨_, fun w1 => by simp [binOp, Op.stringOp], .clo (.bool _)⟩
  · rename_i b c
    exact absurd rfl (hnb b)
  · cases h

theorem aun_step {C : Ctx} {σ : St} {o : Oper} {op : UnOp} {T : TypeId} {x : Operand} (ho : o.op = .unOp op T x) {p v : AV} (hx : oev σ.env x = some p) (h : aun op p = some v) : Pu C o σ v := by
  intro a w S hat
  have rx := oev_rep hat hx
  unfold aun at h
  split at h
  · have ux := rep_int rx
    split at h
    · cases h
      refine ⟨_, ?_, .clo (.int _ _)⟩
      intro w1
      unfold execOp
      simp [ho, ux, Op.unary, Op.intArith]
    · cases h
  · have ux := rep_bool rx
    split at h
    · cases h
      refine ⟨_, ?_, .clo (.bool _)⟩
      intro w1
      unfold execOp
      simp [ho, ux, Op.unary]
    · cases h
  · cases h

def alen' (H : Heap) : AV → Option AV
  | .osl x => match H x with
    | some o => some (.int .i64 o.es.length)
    | none => none
  | v => alen v

theorem alen_step {C : Ctx} {Γ : TTab} (hG : GOK C.P Γ) {σ : St} {o : Oper} {T : TypeId} {x : Operand} (ho : o.op = .call { callee := .builtin .len, args := #[x], argTypes := #[T] }) {p v : AV} (hx : oev σ.env x = some p)
    {i : TI} (hT : look T Γ = some i) (hd : (i.desc = .string ∧ ∃ s, p = .str s) ∨ (∃ e, i.desc = .slice e) ∧ ¬ ∃ s, p = .str s) (h : alen' (C.heap σ) p = some v) : Pu C o σ v := by
  intro a w S hat
  have rx := oev_rep hat hx
  have hU := (hG T i hT).und
  rcases hd with ⟨hd, s, rfl⟩ | ⟨⟨e, hd⟩, hns⟩
  · have ux := rep_str rx
    cases h
    refine ⟨_, ?_, .clo (.int _ _)⟩
    intro w1
    unfold execOp
    simp [ho, ux, resolve, invoke, builtin, Builtin.len_, run_underlying hU, hd, goInt]
  · unfold alen' at h
    split at h
    · obtain ⟨ob, c, cur, hob, _, _, _, _, _, hu⟩ := rep_osl rx
      rw [← hat.O, hob] at h
      cases h
      refine ⟨_, ?_, .clo (.int _ _)⟩
      intro w1
      unfold execOp
      simp [ho, hu, resolve, invoke, builtin, Builtin.len_, run_underlying hU, hd, goInt]
    · unfold alen at h
      split at h
      · exact absurd ⟨_, rfl⟩ hns
      · cases h
        obtain ⟨ad, c, hu⟩ := repc_imm_len (rep_imm rx)
        refine ⟨_, ?_, .clo (.int _ _)⟩
        intro w1
        unfold execOp
        simp [ho, hu, resolve, invoke, builtin, Builtin.len_, run_underlying hU, hd, goInt]
      · cases h

theorem makeInterface_step {C : Ctx} {Γ : TTab} (hG : GOK C.P Γ) {σ : St} {o : Oper} {T : TypeId} {x : Operand} (ho : o.op = .makeInterface T x) {v : AV} (hx : oev σ.env x = some v)
    {i : TI} (hT : look T Γ = some i) (hd : ∀ m, i.desc ≠ .interface m) (hc : ∀ a w S, At C σ a w S → RepC S v (a.eval x)) : Pu C o σ (.iface T v) := by
  refine fun a w S hat => ⟨.iface T (a.eval x), ?_, .clo (.iface _ _ _ (hc a w S hat))⟩
  have hU := (hG T i hT).und
  intro w1
  unfold execOp
  simp only [ho, Instr.makeInterface, Sem.run_bind, run_underlying hU, Result.andThen_ok]
  cases hdd : i.desc <;> simp_all

def oevs (env : List (Nat × AV)) : List Operand → Option (List AV)
  | [] => some []
  | x :: r => match oev env x with
    | some v => match oevs env r with
      | some vs => some (v :: vs)
      | none => none
    | none => none

theorem oevs_rep {C : Ctx} {σ : St} {a : Act} {w : World} {S : Sit} (hat : At C σ a w S) : ∀ {xs : List Operand} {vs : List AV}, oevs σ.env xs = some vs →
    (xs.map a.eval).length = vs.length ∧ ∀ (j : Nat) (v : AV), vs[j]? = some v → Rep S v ((xs.map a.eval).getD j undef)
  | [], vs, h => by cases h; exact ⟨rfl, fun j v hj => by simp at hj⟩
  | x :: r, vs, h => by
    unfold oevs at h
    split at h
    · rename_i v hv
      split at h
      · rename_i vs' hvs
        cases h
        obtain ⟨h1, h2⟩ := oevs_rep hat hvs
        refine ⟨by simpa using h1, fun j y hj => ?_⟩
        cases j with
        | zero => simp at hj; subst hj; simpa using oev_rep hat hv
        | succ j => simpa using h2 j y (by simpa using hj)
      · cases h
    · cases h

theorem makeFunc_step {C : Ctx} {σ : St} {o : Oper} {f : Fn} {first cap : List Operand} (ho : o.op = .makeFunc f first.toArray cap.toArray) {vs us : List AV} (h1 : oevs σ.env first = some vs) (h2 : oevs σ.env cap = some us) :
    Pu C o σ (.fn f vs us) := by
  refine fun a w S hat => ⟨.func f (first.map a.eval).toArray (cap.map a.eval).toArray, ?_, ?_⟩
  · intro w1
    unfold execOp
    simp [ho, Instr.makeFunc]
  · obtain ⟨l1, r1⟩ := oevs_rep hat h1
    obtain ⟨l2, r2⟩ := oevs_rep hat h2
    exact .fn _ _ _ _ _ (by simpa using l1) (by simpa using l2) (fun j x hj => by simpa using r1 j x hj) (fun j x hj => by simpa using r2 j x hj)

theorem extract_step {C : Ctx} {σ : St} {o : Oper} {x : Operand} {k : Nat} (ho : o.op = .extract x k) {vs : List AV} {v : AV} (hx : oev σ.env x = some (.tup vs)) (hk : vs[k]? = some v) : Pu C o σ v := by
  intro a w S hat
  obtain ⟨us, hu, hl, hr⟩ := rep_tup (oev_rep hat hx)
  have hlt : k < us.size := by rw [hl]; exact (List.getElem?_eq_some_iff.1 hk).1
  refine ⟨us.getD k undef, ?_, hr k v hk⟩
  intro w1
  unfold execOp
  simp [ho, hu, Instr.extract, Array.getD, hlt]

theorem convInt_step {C : Ctx} {Γ : TTab} (hG : GOK C.P Γ) {σ : St} {o : Oper} {T T' : TypeId} {x : Operand} (ho : o.op = .convert T T' x) {k k' : IntKind} {n : Int} (hx : oev σ.env x = some (.int k n))
    {i i' : TI} (hT : look T Γ = some i) (hT' : look T' Γ = some i') (hd : i'.desc = .int k') : Pu C o σ (.int k' (k'.wrap n)) := by
  refine fun a w S hat => ⟨.int k' (k'.wrap n), ?_, .clo (.int _ _)⟩
  have hU := (hG T i hT).und
  have hU' := (hG T' i' hT').und
  have hu := rep_int (oev_rep hat hx)
  intro w1
  unfold execOp
  simp [ho, hu, convert, run_underlying hU, run_underlying hU', hd, Conv.intToInt]

end Go.Am
