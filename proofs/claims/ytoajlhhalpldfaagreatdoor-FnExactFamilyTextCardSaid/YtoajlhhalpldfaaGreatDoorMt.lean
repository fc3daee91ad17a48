/- A whole element stored into a new row that is frozen, in any heap; calls that hand back a new struct. -/
import Derived.Test.YtoajlhhalpldfaaGreatDoorMi4
namespace Go.Am
open Go

theorem AOp.callG {C : Ctx} {all : Array Oper} {Q : AEx → St → Prop} {W : List ID} {σ : St} {i : Nat} {o : Oper} {K : St → Prop} {d : Nat} (hi : all[i]? = some o) (hg : OnG all σ o true) {f : Operand} {xs : List Operand} {ts : Array TypeId}
  (hop : o.op = .call { callee := .value f, args := xs.toArray, argTypes := ts }) (hd : o.dst = some d) (hn : d < C.nt)
  {fid : FuncId} {first cap vs : List AV} (hf : oev σ.env f = some (.fn (.func fid) first cap)) (hx : oevs σ.env xs = some vs) (hok : (first ++ (vs ++ cap)).all argok = true)
  (hT : ∀ x ∈ upsOf (tch (first ++ (vs ++ cap))), C.S0.fz x = false) (hW : ∀ x ∈ tch (first ++ (vs ++ cap)), x ∈ W)
  {R : Out → Heap → Nat → Prop} (hc : ACalls C.P fid (first ++ (vs ++ cap)) (C.heap σ) σ.tk R)
  (h : CallK C σ (fun σ' v => K (σ'.put d v)) (fun σ' v => Q (.pan v) { σ' with env := [] }) R) : AOp C all Q W i K σ := by
 intro a w S hat hl
 have hTT : ∀ x, C.S0.fz x = true → tfz (tch (first ++ (vs ++ cap))) (.up x) = true := fun x hx => decide_eq_true fun hm => by
  rw [hT x (mem_upsOf hm)] at hx; cases hx
 unfold wpOp
 simp only [hi, wanted_on hat hg, if_true]
 refine .inl (call_wp hat hop hf hx hok hc (fun v u S' q1 q2 q3 q4 => ?_) (fun v u S' q1 q2 q3 q4 => ?_) (fun ob u S' _ _ _ q => absurd q (h.2.2 _ _ _)))
 ·obtain ⟨σ', e1, e2, e3, e4, hr⟩ := h.1 v _ _ q4
  have hat' := (hat.fz (tfz (tch (first ++ (vs ++ cap))))).called q1 hTT q2 e2.symm e3.symm e1 e4
  rw [hd]
  exact ⟨S', _, hat'.put hn (.clo q3), (keep_call hat q1).mono hW, hr⟩
 obtain ⟨σ', e1, e2, e3, e4, hr⟩ := h.2.1 v _ _ q4
 have hat' := (hat.fz (tfz (tch (first ++ (vs ++ cap))))).called q1 hTT q2 e2.symm e3.symm e1 e4
 exact ⟨S', { σ' with env := [] }, v, u, rfl, hat'.weaken [] (fun i v hv => by simp [look] at hv), rfl, q3, hr⟩

theorem build_new {C : Ctx} {Γ : TTab} (hG : GOK C.P Γ) {σ : St} {op : Oper} {T e : TypeId} {n : Nat} {ps : List (Nat × Operand)} (ho : op.op = .buildSlice T n ps.toArray) {i ie : TI} (hT : look T Γ = some i) (hd : i.desc = .slice e)
  (he : look e Γ = some ie) {d : Nat} (hfree : look d σ.l = none) {vs : List (Nat × AV)} (hv : oevp σ.env ps = some vs) {es : List (List AV)} (h : abs ie.size 0 vs = some es) (hn : es.length = n) (hsm : n * ie.size ≤ 16777216) (h0 : n ≠ 0) {a : Act} {w : World} {S : Sit} (hat : At C σ a w S) :
  ∃ u w' S', (execOp a.eval op).run C.P w = .ok (.value u) w' ∧ At C ⟨σ.env, (d, ⟨e, ie.size, false, es⟩) :: σ.l, σ.b, σ.O, σ.tk⟩ a w' S' ∧ Rep S' (.osl (.loc d)) u ∧ KeepW S S' [] ∧ S.w.heap.size ≤ S'.β (.loc d) ∧ (S'.O (.loc d)).isSome = true := by
 have hwS := hat.w
 subst hwS
 have hU := (hG T i hT).und
 rw [hd] at hU
 have hE := hG e ie he
 obtain ⟨ti, z, z1, z2, z3, z4, z5, z6⟩ := zero_rep hE S
 obtain ⟨v1, v2⟩ := oevp_rep hat hv
 have hvl : vs.length = es.length := by
  obtain ⟨g1, _⟩ := abs_rep (S := S) (us := ps.map fun x => (x.1, a.eval x.2)) (ucells := Array.replicate ((0 + vs.length) * ie.size) undef) h v1 v2 (by simp)
  exact g1.symm
 have hmaxn : n ≤ maxLen := by
  have hp := hE.pos
  have := Nat.le_mul_of_pos_right n hp
  have : n ≤ 16777216 := by omega
  exact Nat.le_trans this (by unfold maxLen; decide)
 have hpos : 0 < n * ie.size := Nat.mul_pos (Nat.pos_of_ne_zero h0) hE.pos
 have hzs : (Array.map (fun x => z.cells[x % z.cells.size]!) (Array.range (n * ie.size))).size = n * ie.size := by simp
 obtain ⟨g1, g2, out, g3, g4, g5, g6⟩ := abs_rep (S := S) (us := ps.map fun x => (x.1, a.eval x.2)) (ucells := (Array.range (n * ie.size)).map (z.cells[· % z.cells.size]!)) h v1 v2 (by rw [hzs, hvl, hn, Nat.zero_add]; exact Nat.le_refl _)
 rw [hzs] at g4
 obtain ⟨S', hat', hmov, hβ, hO⟩ := hat.add hfree ⟨e, ie.size, false, es⟩ out (by rw [g4, hn]; exact Nat.le_refl _) (fun h => by cases h) g2 (fun i e j v hi hj => by
  obtain ⟨t1, u, t2, t3⟩ := g6 i e j v hi hj
  rw [Nat.zero_add] at t2
  exact ⟨cl_d1 t1, u, t2, .clo t3, fun _ => t3⟩) _ (.inr rfl)
 refine ⟨.slice (some ⟨S.w.heap.size, 0, none⟩) n n, _, S', ?_, hat', ?_, keep_alloc hmov (.inl hat'.w), by rw [hβ]; exact Nat.le_refl _, by rw [hO]; rfl⟩
 ·have hrun := run_buildSlice (P := C.P) S.w T e n (ps.toArray.map fun x => (x.1, a.eval x.2)) out ti z hU z1 z4 (by rw [z2]; omega) (by rw [z2]; omega) (by rw [z2]; simpa using g3)
  unfold execOp
  simp only [ho, Sem.run_bind, hrun, Result.andThen_ok, Sem.run_pure]
 have := Rep.osl (S := S') (.loc d) _ n _ hO rfl (by rw [hβ, hat'.w]; exact heap_alloc_new S.w _) g4 (by rw [hn]; exact Nat.le_refl _) hmaxn
 simpa [hβ, hn] using this

theorem AOpN.build {C : Ctx} {all : Array Oper} {Q : AEx → St → Prop} {W : List ID} {fuel : Nat} {listed : Array Bool} {σ : St} {Γ : TTab} (hG : GOK C.P Γ) {i : Nat} {o : Oper} {d : Nat} (hi : all[i]? = some o) (hg : o.guard = none) (hd : o.dst = some d) (hn : d < C.nt) {T e : TypeId} {n : Nat} {ps : List (Nat × Operand)} (ho : o.op = .buildSlice T n ps.toArray)
  {ti ie : TI} (hT : look T Γ = some ti) (hds : ti.desc = .slice e) (he : look e Γ = some ie) (hfree : look d σ.l = none) {vs : List (Nat × AV)} (hv : oevp σ.env ps = some vs) {es : List (List AV)} (ha : abs ie.size 0 vs = some es) (hln : es.length = n) (hsm : n * ie.size ≤ 16777216 ∧ n ≠ 0)
  (h : AAny C all Q (.loc d :: W) fuel (listed.setIfInBounds i true) (St.put ⟨σ.env, (d, ⟨e, ie.size, false, es⟩) :: σ.l, σ.b, σ.O, σ.tk⟩ d (.osl (.loc d)))) : AOpN C all Q W fuel listed i σ := by
 intro a w S hat hl
 obtain ⟨u, w', S', r1, e1, e2, e3, e4, e5⟩ := build_new hG ho hT hds he hfree hv ha hln hsm.1 hsm.2 hat
 have hw := e1.w
 subst hw
 unfold wpOp
 simp only [hi, Region.wanted, hg, if_true]
 refine .inl ?_
 unfold Oper.wp
 rw [r1]
 simp only [Oper.upon, hd]
 have hreb : ∀ w1, Held S' (.loc d :: W) w1 → Held S W w1 := by
  intro w1 hw1
  refine ⟨Nat.le_trans e3.1.1 hw1.1, fun b hb hW => ?_⟩
  rw [hw1.2 b (Nat.lt_of_lt_of_le hb e3.1.1) ?_]
  ·exact e3.1.2 b hb fun x hm => by cases hm
  intro x hm e
  rcases List.mem_cons.1 hm with rfl | hm
  ·omega
  rcases (e3.2 x (hl x hm)).2 with q | q
  ·exact hW x hm (q ▸ e)
  omega
 refine ⟨e3.1.mono (fun _ h => by cases h), wpAnyH_rebase hreb _ _ _ _ (h _ _ S' (e1.put hn e2) fun x hm => ?_)⟩
 rcases List.mem_cons.1 hm with rfl | hm
 ·exact e5
 exact (e3.2 x (hl x hm)).1

end Go.Am
