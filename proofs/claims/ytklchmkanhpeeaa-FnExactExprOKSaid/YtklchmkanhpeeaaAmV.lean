/- The abstract memory logic, twenty-second part: slicing. -/
import Derived.Test.YtklchmkanhpeeaaAmU
import Derived.Laws.Slices
namespace Go.Am
open Go

theorem elem_of {P : Program} {T e : TypeId} (h : P.underlying T = some (.slice e)) : P.elem T = e ∧ P.underlying T = some (.slice (P.elem T)) := by
  have : P.elem T = e := by simp [Program.elem, h]
  exact ⟨this, by rw [this]; exact h⟩

/-- A row of the call's own, cut down to its first n. -/
theorem cut_step {C : Ctx} {Γ : TTab} (hG : GOK C.P Γ) {σ : St} {op : Oper} {T e : TypeId} {x y : Operand} (ho : op.op = .slice T x none (some y) none)
    {i ie : TI} (hT : look T Γ = some i) (hd : i.desc = .slice e) (he : look e Γ = some ie) {k : Nat} {o : Obj} {kk : IntKind} {n : Nat} (hx : oev σ.env x = some (.osl (.loc k))) (hy : oev σ.env y = some (.int kk n))
    (hk : look k σ.l = some o) (hb : o.box = false) (hn : n ≤ o.es.length) (hn0 : 0 < o.es.length) {es' : List (List AV)} (hes : o.es.take n = es') :
    Step C [.loc k] op σ (.osl (.loc k)) ⟨subE k .jnk σ.env, setl k ⟨o.ty, o.sz, o.box, es'⟩ (subO k .jnk σ.l), σ.b, σ.O, σ.tk⟩ := by
  subst hes
  intro a w S hat
  have hwS := hat.w
  subst hwS
  have hU := (hG T i hT).und
  rw [hd] at hU
  obtain ⟨hel, hU'⟩ := elem_of hU
  have hSo : S.O (.loc k) = some o := by rw [hat.O]; exact hk
  obtain ⟨cur, q1, q2, q3, q4, q5⟩ := hat.sim.obj _ _ hSo
  obtain ⟨o', c, cur', ho', hb', hw', hc, hl, hcm, hu⟩ := rep_osl (oev_rep hat hx)
  rw [hSo] at ho'
  cases ho'
  rw [q1] at hw'
  cases hw'
  have uy := rep_int (oev_rep hat hy)
  obtain ⟨S', hat', hrep, hkp⟩ := hat.turn hk hb (o.es.take n) (fun e he => q4 e (List.mem_of_mem_take he)) S.w (S.β (.loc k)) cur c q1 (.inl rfl) hc (by simp; omega) hcm (fun _ _ _ => rfl) (Nat.le_refl _) rfl rfl rfl (fun i e j v hi hj => by
    rw [List.getElem?_take] at hi
    split at hi
    · obtain ⟨s1, u, s2, s3, s4⟩ := q5 i e j v hi hj
      exact ⟨s1, u, s2, s4 hb⟩
    · cases hi)
  refine ⟨_, _, S', .inl ?_, hat', hrep, hkp⟩
  unfold execOp
  have hrun := run_slice_h S.w T (some ⟨S.β (.loc k), 0, none⟩) o.es.length c hU' kk (n : Int) (by omega) (by omega)
  rw [hel, sizeOf_run (hG e ie he)] at hrun
  simp only [ho, hu, uy, Sem.run_bind, Option.map_some, Option.map_none, run_sliceAt_slice S.w T _ _ _ _ hU', hrun, Result.andThen_ok, sliced, Sem.run_pure, Int.toNat_natCast]
  have hlen : (o.es.take n).length = n := by simp; omega
  have hz : ∀ ad : Addr, ad.spot = none → ad.add (0 * ie.size) = ad := fun ad h => by obtain ⟨b, f, s⟩ := ad; cases h; rw [Nat.zero_mul, add_off]; rfl
  rw [if_neg (by omega)]
  simp only [Option.map_some, hz ⟨S.β (.loc k), 0, none⟩ rfl, hlen, Nat.sub_zero]

/-- append, with the row's elements said otherwise. -/
theorem append_step' {C : Ctx} {Γ : TTab} (hG : GOK C.P Γ) {σ : St} {op : Oper} {T e : TypeId} {x y : Operand} (ho : op.op = .call { callee := .builtin .append, args := #[x, y], argTypes := #[T, T] })
    {i ie : TI} (hT : look T Γ = some i) (hd : i.desc = .slice e) (he : look e Γ = some ie) {k : Nat} {o : Obj} {q : AV} {es2 : List (List AV)} (hx : oev σ.env x = some (.osl (.loc k))) (hy : oev σ.env y = some q)
    (hk : look k σ.l = some o) (hb : o.box = false) (hty : o.ty = e) (hsz : o.sz = ie.size) (hq : elems σ q = some es2) (hes2 : ∀ e ∈ es2, e.length = ie.size)
    (hlen : (o.es.length + es2.length) * ie.bytes ≤ 140737488355328) (hm : o.es.length + es2.length ≤ 140737488355328) {es' : List (List AV)} (hes : o.es ++ es2 = es') :
    Step C [.loc k] op σ (.osl (.loc k)) ⟨subE k .jnk σ.env, setl k ⟨o.ty, o.sz, o.box, es'⟩ (subO k .jnk σ.l), σ.b, σ.O, σ.tk⟩ := by
  subst hes
  exact append_step hG ho hT hd he hx hy hk hb hty hsz hq hes2 hlen hm

/-- A one-celled element, read where it stands. -/
theorem aload_one {Γ : TTab} {H : Heap} {T : TypeId} {i : TI} (hT : look T Γ = some i) (ha : i.agg = false) {x : ID} {o : Obj} {n : Nat} {v : AV} {r : List AV} (ho : H x = some o) (he : o.es[n]? = some (v :: r)) (hf : force v = some v) :
    aload Γ H T (.optr x n 0) = some v := by
  unfold aload
  simp [hT, ha, cellsAt, ho, he, hf]

/-- A call that gives back one value of which P holds, and leaves all else. -/
def RetE (O : Heap) (P : AV → Prop) (out : Out) (O' : Heap) (_ : Nat) : Prop := O' = O ∧ ∃ v, out = .ret v ∧ P v

theorem callK_retE {C : Ctx} {σ : St} {K KP : St → AV → Prop} {P : AV → Prop} (h : ∀ v tk', P v → K ⟨σ.env, σ.l, σ.b, σ.O, tk'⟩ v) : CallK C σ K KP (RetE (C.heap σ) P) :=
  ⟨fun v' O' tk' ⟨h1, v, h2, h3⟩ => by cases h2; exact ⟨⟨σ.env, σ.l, σ.b, σ.O, tk'⟩, rfl, h1.symm, rfl, rfl, h _ _ h3⟩, fun v O' tk' ⟨_, _, h2, _⟩ => (by cases h2), fun ob O' tk' ⟨_, _, h2, _⟩ => (by cases h2)⟩

theorem ACalls.retE {P : Program} {f : FuncId} {args : List AV} {O : Heap} {tk tk' : Nat} {v : AV} {Q : AV → Prop} (h : ACalls P f args O tk (RetN O v tk')) (hq : Q v) : ACalls P f args O tk (RetE O Q) :=
  h.mono fun out O' tk'' ⟨h1, h2, _⟩ => ⟨h1, v, h2, hq⟩

end Go.Am
