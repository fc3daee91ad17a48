/- The abstract memory logic, twentieth part: regions whose order is drawn. -/
import Derived.Test.YtklchmkanhpeeaaAmS
import Derived.OrdersHeld
namespace Go.Am
open Go

theorem Sub.freeze {C : Ctx} {σ : St} {k : Nat} {o : Obj} (hk : look k σ.l = some o) (hb : o.box = false) :
    Sub C σ ⟨subE k (.imm σ.tk o.sz false o.es) σ.env, dele k (subO k (.imm σ.tk o.sz false o.es) σ.l), σ.b, σ.O, σ.tk + 1⟩ := fun _ _ _ hat => hat.freeze hk hb
theorem Sub.drop {C : Ctx} {σ : St} {k : Nat} {o : Obj} (hk : look k σ.l = some o) :
    Sub C σ ⟨subE k .jnk σ.env, dele k (subO k .jnk σ.l), σ.b, σ.O, σ.tk⟩ := fun _ _ _ hat => hat.drop hk

theorem run_if {C : Ctx} {Q : AEx → St → Prop} {ks : List AItem} {σ : St} {c : Operand} {x y : Code} {b : Bool} {i : Nat} (hc : c = .tmp i) (hv : look i σ.env = some (.bool b))
    (ht : b = true → Run C Q (.code x :: ks) .normal σ) (hf : b = false → Run C Q (.code y :: ks) .normal σ) : Run C Q (.code (.cond c x y) :: ks) .normal σ :=
  run_cond hc hv (by cases b with
    | true => exact ht rfl
    | false => exact hf rfl)

/-- The world but for what has been drawn. -/
theorem At.world {C : Ctx} {σ : St} {a : Act} {w : World} {S : Sit} (h : At C σ a w S) {w' : World} (hh : w'.heap = w.heap) (h1 : w'.os = w.os) (h2 : w'.tape = w.tape) (h3 : w'.output = w.output) : At C σ a w' { S with w := w' } := by
  have hw := h.w
  subst hw
  let S' : Sit := { S with w := w' }
  have hle : Le S S' := ⟨by show _ ≤ w'.heap.size; rw [hh]; exact Nat.le_refl _, h1, h2, h3, rfl, Nat.le_refl _, fun _ _ => rfl, fun b hb => ⟨⟨by show b < w'.heap.size; rw [hh]; exact hb.1, hb.2⟩, by show w'.heap[b]? = _; rw [hh]⟩⟩
  have hmov : Mov S S' (fun _ => False) := ⟨hle, fun x o ho _ => ⟨o, ho, rfl, rfl, rfl, rfl, rfl, fun cur hc => ⟨cur, by show w'.heap[S.β x]? = _; rw [hh]; exact hc, rfl⟩⟩, fun _ _ h => ⟨h, rfl⟩⟩
  refine ⟨rfl, h.O, h.tk, ⟨fun x o hx => ?_, h.sim.inj, h.sim.base, fun t t1 t2 => ?_, h.sim.tinj, by show _ ≤ w'.heap.size; rw [hh]; exact h.sim.b0, h.sim.hid, h.sim.tk2⟩, fun i v hv => ?_, h.nt, h.defers, ?_, h.new, h.bl, h.nd, h.bb, h.h0, h.hl, h.hu, h.hv, h.hf⟩
  · obtain ⟨cur, q1, q2, q3, q4, q5⟩ := h.sim.obj x o hx
    exact ⟨cur, by show w'.heap[S.β x]? = _; rw [hh]; exact q1, q2, q3, q4, fun i e j v hi hj => let ⟨r1, u, r2, r3, r4⟩ := q5 i e j v hi hj; ⟨r1, u, r2, r3.mov0 hmov, fun hb => (r4 hb).le hle⟩⟩
  · obtain ⟨q1, q2, q3⟩ := h.sim.tok t t1 t2
    exact ⟨by show _ < w'.heap.size; rw [hh]; exact q1, q2, q3⟩
  · obtain ⟨u, hu, hr⟩ := h.env i v hv
    exact ⟨u, hu, hr.mov0 hmov⟩
  · exact h.ext.own rfl rfl rfl rfl (Nat.le_refl _) (fun _ _ => rfl) h1 h2 h3 (by show _ ≤ w'.heap.size; rw [hh]; exact Nat.le_refl _) (fun x o hx => h.h0.lt hx) (fun b _ => by show w'.heap[b]? = _; rw [hh]; rfl) (fun t t1 t2 => absurd t1 (Nat.not_le_of_lt t2))

/-- Whatever order is picked from here on; of the objects that stand, the operations write into W alone. -/
def AAny (C : Ctx) (all : Array Oper) (Q : AEx → St → Prop) (W : List ID) (fuel : Nat) (listed : Array Bool) (σ : St) : Prop :=
  ∀ a w S, At C σ a w S → (∀ x ∈ W, (S.O x).isSome = true) → wpAnyH C.P .any all (QC C Q) (Held S W) fuel listed a w

/-- One operation that has come up. -/
def AOp (C : Ctx) (all : Array Oper) (Q : AEx → St → Prop) (W : List ID) (i : Nat) (K : St → Prop) (σ : St) : Prop :=
  ∀ a w S, At C σ a w S → (∀ x ∈ W, (S.O x).isSome = true) → wpOp C.P all (QC C Q) i (fun a' w' => ∃ S' σ', At C σ' a' w' S' ∧ KeepW S S' W ∧ K σ') a w

section
variable {C : Ctx} {all : Array Oper} {Q : AEx → St → Prop} {W : List ID} {fuel : Nat} {listed : Array Bool} {σ : St} {ks : List AItem}

theorem run_draw (W : List ID) {n : Nat} (hm : C.P.follows .mixedOrders = true) {id : Nat} (hn : all.size = n) (hW : ∀ x ∈ W, (C.heap σ x).isSome = true) (h : AAny C all (Run C Q ks) W n (Array.replicate n false) σ) :
    Run C Q (.code (.region id all true) :: ks) .normal σ := by
  subst hn
  intro a w S hat
  have hat' := hat.world (w' := { w with drawn := w.drawn + 1 }) rfl rfl rfl rfl
  exact wp_region_held hm (h a _ _ hat' fun x hx => by rw [hat'.O]; exact hW x hx)

theorem wpAnyH_rebase {P : Program} {md : Region.Mode} {Q : Exit → Act → World → Prop} {S S' : World → Prop} (hs : ∀ w, S' w → S w) : ∀ (fuel : Nat) (listed : Array Bool) (a : Act) (w : World), wpAnyH P md all Q S' fuel listed a w → wpAnyH P md all Q S fuel listed a w
  | 0, _, _, _, h => h
  | fuel + 1, _, _, _, h => ⟨h.1, fun i hi => wpOp_mono (fun a' w' h' => ⟨hs _ h'.1, wpAnyH_rebase hs fuel _ a' w' h'.2⟩) (h.2 i hi)⟩

/-- An operation that reads may be taken first. -/
theorem AAny.take {i : Nat} {oi : Oper} {v : AV} {d : Nat} (hi : all[i]? = some oi) (hs : Region.noSelect all = true) (hf : Region.free .any all listed i = true) (hr : (Region.ready .any all listed).contains i = true)
    (hg : oi.guard = none) (hd : oi.dst = some d) (hn : d < C.nt) (hy : Rd C W oi σ v) (h : AAny C all Q W fuel (listed.setIfInBounds i true) (σ.put d v)) : AAny C all Q W (fuel + 1) listed σ := by
  intro a w S hat hW
  obtain ⟨u, h1, h2⟩ := hy a w S hat hW
  have hwS := hat.w
  subst hwS
  refine wpAnyH_take hi hs hf hr (fun c a' w' hq => ?_) (.inl ⟨by simp [Region.wanted, hg], fun w' hw' => h1 w' hw'⟩) (Held.refl S W) ?_
  · obtain ⟨S1, σ1, v1, u1, e1, q1, q2, q3, q4⟩ := hq
    refine ⟨S1, σ1, v1, u1, e1, ⟨q1.w, q1.O, q1.tk, q1.sim, fun j x hj => by rw [e1] at hj; simp [look] at hj, by have := q1.nt; rw [hd] at this; simpa [Act.put] using this, by have := q1.defers; rw [hd] at this; exact this, q1.ext, q1.new, q1.bl, q1.nd, q1.bb, q1.h0, q1.hl, q1.hu, q1.hv, q1.hf⟩, q2, q3, q4⟩
  · rw [hd]
    exact h _ _ S (hat.put hn h2) hW

/-- Whichever of those that may come up comes up. -/
theorem AAny.each {rs : List Nat} (hr : Region.ready .any all listed = rs) (hne : rs ≠ []) (h : ∀ i ∈ rs, AOp C all Q W i (AAny C all Q W fuel (listed.setIfInBounds i true)) σ) : AAny C all Q W (fuel + 1) listed σ := by
  intro a w S hat hW
  refine wpAnyH_all hr hne fun i hi => wpOp_mono (fun a' w' ⟨S', σ', h1, h2, h3⟩ => ?_) (h i hi a w S hat hW)
  have hw := h1.w
  subst hw
  exact ⟨h2.1, wpAnyH_rebase (fun w1 hw1 => hw1.trans h2 hW) _ _ _ _ (h3 _ _ S' h1 fun x hx => (h2.2 x (hW x hx)).1)⟩

theorem AAny.one {i : Nat} (hr : Region.ready .any all listed = [i]) (h : AOp C all Q W i (AAny C all Q W fuel (listed.setIfInBounds i true)) σ) : AAny C all Q W (fuel + 1) listed σ :=
  AAny.each hr (fun h => by cases h) fun j hj => by rw [List.mem_singleton] at hj; subst hj; exact h

theorem AAny.done (hr : Region.ready .any all listed = []) (h : Q .normal σ) : AAny C all Q W fuel listed σ := fun _ _ S hat _ => wpAnyH_done hr ⟨S, σ, hat, h⟩ _

theorem AAny.sub {σ' : St} (hs : Sub C σ σ') (hl : ∀ x ∈ W, (C.heap σ' x).isSome = true) (h : AAny C all Q W fuel listed σ') : AAny C all Q W fuel listed σ := fun a w S hat _ => by
  obtain ⟨S', h1, h2, h3⟩ := hs a w S hat
  refine wpAnyH_rebase (fun w1 hw1 => ?_) _ _ _ _ (h a w S' h1 fun x hx => by rw [h1.O]; exact hl x hx)
  unfold Held at *
  rw [h2, h3] at hw1
  exact hw1

theorem AOp.step {i : Nat} {oi : Oper} {K : St → Prop} {v : AV} {σ' : St} {d : Nat} (hi : all[i]? = some oi) (hg : oi.guard = none) (hd : oi.dst = some d) (hn : d < C.nt) {W' : List ID} (hs : Step C W' oi σ v σ') (hW : ∀ x ∈ W', x ∈ W) (h : K (σ'.put d v)) : AOp C all Q W i K σ := by
  intro a w S hat hl
  obtain ⟨u, w', S', h1, h2, h3, h4⟩ := hs a w S hat
  unfold wpOp
  simp only [hi, Region.wanted, hg, if_true]
  refine .inl ?_
  unfold Oper.wp
  rcases h1 with h1 | ⟨h1, rfl⟩
  · rw [h1]; simp only [Oper.upon, hd]; exact ⟨S', _, h2.put hn h3, h4.mono hW, h⟩
  · rw [h1]; simp only [Oper.upon, hd]; exact ⟨S', _, h2.put hn h3, h4.mono hW, h⟩

theorem AOp.step0 {i : Nat} {oi : Oper} {K : St → Prop} {v : AV} {σ' : St} (hi : all[i]? = some oi) (hg : oi.guard = none) (hd : oi.dst = none) {W' : List ID} (hs : Step C W' oi σ v σ') (hW : ∀ x ∈ W', x ∈ W) (h : K σ') : AOp C all Q W i K σ := by
  intro a w S hat hl
  obtain ⟨u, w', S', h1, h2, h3, h4⟩ := hs a w S hat
  unfold wpOp
  simp only [hi, Region.wanted, hg, if_true]
  refine .inl ?_
  unfold Oper.wp
  rcases h1 with h1 | ⟨h1, rfl⟩
  · rw [h1]; simp only [Oper.upon, hd]; exact ⟨S', _, h2, h4.mono hW, h⟩
  · rw [h1]; simp only [Oper.upon, hd]; exact ⟨S', _, h2, h4.mono hW, h⟩

theorem AOp.rd {i : Nat} {oi : Oper} {K : St → Prop} {v : AV} {d : Nat} (hi : all[i]? = some oi) (hg : oi.guard = none) (hd : oi.dst = some d) (hn : d < C.nt) (hs : Rd C [] oi σ v) (h : K (σ.put d v)) : AOp C all Q W i K σ :=
  AOp.step hi hg hd hn hs.step (fun _ h => by cases h) h
theorem AOp.pu {i : Nat} {oi : Oper} {K : St → Prop} {v : AV} {d : Nat} (hi : all[i]? = some oi) (hg : oi.guard = none) (hd : oi.dst = some d) (hn : d < C.nt) (hs : Pu C oi σ v) (h : K (σ.put d v)) : AOp C all Q W i K σ :=
  AOp.step hi hg hd hn hs.step (fun _ h => by cases h) h

theorem AOp.call {i : Nat} {o : Oper} {K : St → Prop} {d : Nat} (hi : all[i]? = some o) (hg : o.guard = none) {f : Operand} {xs : List Operand} {ts : Array TypeId}
    (hop : o.op = .call { callee := .value f, args := xs.toArray, argTypes := ts }) (hd : o.dst = some d) (hn : d < C.nt)
    {fid : FuncId} {first cap vs : List AV} (hf : oev σ.env f = some (.fn (.func fid) first cap)) (hx : oevs σ.env xs = some vs) (hok : (first ++ (vs ++ cap)).all argok = true)
    (hT : ∀ x ∈ upsOf (tch (first ++ (vs ++ cap))), C.S0.fz x = false) (hW : ∀ x ∈ tch (first ++ (vs ++ cap)), x ∈ W)
    {R : Out → Heap → Nat → Prop} (hc : ACalls C.P fid (first ++ (vs ++ cap)) (C.heap σ) σ.tk R)
    (h : CallK C σ (fun σ' v => K (σ'.put d v)) (fun σ' v => Q (.pan v) { σ' with env := [] }) R) : AOp C all Q W i K σ := by
  intro a w S hat hl
  have hTT : ∀ x, C.S0.fz x = true → tfz (tch (first ++ (vs ++ cap))) (.up x) = true := fun x hx => decide_eq_true fun hm => by
    rw [hT x (mem_upsOf hm)] at hx; cases hx
  unfold wpOp
  simp only [hi, Region.wanted, hg, if_true]
  refine .inl (call_wp hat hop hf hx hok hc (fun v u S' q1 q2 q3 q4 => ?_) (fun v u S' q1 q2 q3 q4 => ?_) (fun ob u S' _ _ _ q => absurd q (h.2.2 _ _ _)))
  · obtain ⟨σ', e1, e2, e3, e4, hr⟩ := h.1 v _ _ q4
    have hat' := (hat.fz (tfz (tch (first ++ (vs ++ cap))))).called q1 hTT q2 e2.symm e3.symm e1 e4
    rw [hd]
    exact ⟨S', _, hat'.put hn (.clo q3), (keep_call hat q1).mono hW, hr⟩
  · obtain ⟨σ', e1, e2, e3, e4, hr⟩ := h.2.1 v _ _ q4
    have hat' := (hat.fz (tfz (tch (first ++ (vs ++ cap))))).called q1 hTT q2 e2.symm e3.symm e1 e4
    exact ⟨S', { σ' with env := [] }, v, u, rfl, hat'.weaken [] (fun i v hv => by simp [look] at hv), rfl, q3, hr⟩

end

end Go.Am
