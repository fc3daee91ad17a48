/- A whole element stored into a new row that is frozen, in any heap; calls that hand back a new struct. -/
import Derived.Test.YtpkeophkdemcpaaMi4
namespace Go.Am
open Go

/-- A call that hands back a new struct. -/
theorem run_callBox {C : Ctx} {Q : AEx → St → Prop} {ks : List AItem} {σ : St} {all : Array Oper} {o : Oper} {rest : List Oper} {d : Nat} (hg : o.guard = none) {f : Operand} {xs : List Operand} {ts : Array TypeId}
  (hop : o.op = .call { callee := .value f, args := xs.toArray, argTypes := ts }) (hd : o.dst = some d) (hn : d < C.nt)
  {fid : FuncId} {first cap vs : List AV} (hf : oev σ.env f = some (.fn (.func fid) first cap)) (hx : oevs σ.env xs = some vs) (hok : (first ++ (vs ++ cap)).all argok = true) (hT : tch (first ++ (vs ++ cap)) = [])
  {R : Out → Heap → Nat → Prop} (hc : ACalls C.P fid (first ++ (vs ++ cap)) (C.heap σ) σ.tk R) (hfree : look d σ.l = none) {ob : Obj} (hR : ∀ out O' tk', R out O' tk' → out = .box ob)
  (h : Run C Q (.ops all rest :: ks) .normal (St.put ⟨σ.env, (d, ob) :: σ.l, σ.b, σ.O, σ.tk⟩ d (.optr (.loc d) 0 0))) : Run C Q (.ops all (o :: rest) :: ks) .normal σ := by
 intro a w S hat
 have hwS := hat.w
 subst hwS
 refine wpList_plain hg fun K hK => ?_
 refine call_wp hat hop hf hx hok hc (fun v u S' _ _ _ q => by cases hR _ _ _ q) (fun v u S' _ _ _ q => by cases hR _ _ _ q) (fun ob' u S' q1 q2 q3 q4 => ?_)
 cases hR _ _ _ q4
 rw [hT] at q1 q3
 obtain ⟨S'', e1, e2, e3, e4, e5⟩ := adopt_call hat hfree q1 q3
 have hw := e1.w
 refine hK _ _ ?_
 rw [hd]
 exact h _ _ S'' (e1.put hn e2)

/-- From a contract of the kit's: a new struct, whose first cell is what came in. -/
theorem acalls_box3 {P : Program} {f : FuncId} {O : Heap} {tk : Nat} {T : TypeId} {q : Nat} {fl : Bool} {es : List (List AV)} {a b : Int}
  (hb : ∃ fn c, P.funcs[f]? = some fn ∧ (fn.name == "runtime.NumGoroutine") = false ∧ fn.body = some c)
  (h : ∀ (w : World) (ad : Option Addr) (c : Nat), Calls P f #[.slice ad es.length c] w fun e w' => e = .returned (.pointer (some ⟨w.heap.size, 0, none⟩)) ∧ w' = w.alloc (.cells #[.slice ad es.length c, .int .i64 a, .int .i64 b] T)) :
  ACalls P f [.imm q 1 fl es] O tk (fun out _ _ => out = .box ⟨T, 3, true, [[.imm q 1 fl es, .int .i64 a, .int .i64 b]]⟩) := by
 refine ⟨hb, fun S us h1 h2 h3 _ _ h4 h5 => ?_⟩
 have r0 : RepC S (.imm q 1 fl es) (us.getD 0 undef) := h5 0 _ rfl
 obtain ⟨ad, c, hu⟩ := repc_imm_len r0
 have hus : us = #[.slice ad es.length c] := by
  obtain ⟨l⟩ := us
  match l, h4 with
  | [x], _ => simp at hu; rw [hu]
 rw [hu] at r0
 rw [hus]
 refine (h S.w ad c).mono fun e w' ⟨q1, q2⟩ => ?_
 have hcell : w'.heap[S.w.heap.size]? = some (.cells #[.slice ad es.length c, .int .i64 a, .int .i64 b] T (0, 0)) := by rw [q2]; exact Array.getElem?_push_size
 have hold : ∀ b, b < S.w.heap.size → w'.heap[b]? = S.w.heap[b]? := fun b hb => by rw [q2]; exact RowKit.Below.heap_alloc _ _ _ hb
 have hsz : S.w.heap.size ≤ w'.heap.size := by rw [q2]; simp
 have hle : Le S { S with w := w' } := ⟨hsz, by rw [q2]; rfl, by rw [q2]; rfl, by rw [q2]; rfl, rfl, Nat.le_refl _, fun _ _ => rfl, fun b hb => ⟨⟨Nat.lt_of_lt_of_le hb.1 hsz, hb.2⟩, hold b hb.1⟩⟩
 have hx : Ext S { S with w := w' } := ⟨hle, fun x o ho => ⟨o, ho, rfl, rfl, rfl, rfl, fun _ => ⟨rfl, hold _ (h3.lt ho)⟩⟩, fun _ h => h, fun _ _ h => ⟨h, rfl⟩, rfl, rfl, fun t t1 t2 => absurd t1 (Nat.not_le_of_lt t2)⟩
 refine ⟨.box ⟨T, 3, true, [[.imm q 1 fl es, .int .i64 a, .int .i64 b]]⟩, { S with w := w' }, rfl, ⟨fun x o ho => ?_, h3.inj, h3.base, fun t t1 t2 => ?_, h3.tinj, Nat.le_trans h3.b0 hsz, h3.hid, h3.tk2⟩, hx,
  ⟨S.w.heap.size, _, q1, Nat.le_refl _, hcell, rfl, rfl, rfl, fun e he => ?_, fun i e j v hi hj => ?_⟩, rfl⟩
 ·obtain ⟨cur, a1, a2, a3, a4, a5⟩ := h3.obj x o ho
  exact ⟨cur, (hold _ (h3.lt ho)).trans a1, a2, a3, a4, fun i e j v hi hj => let ⟨b1, u, b2, b3, b4⟩ := a5 i e j v hi hj; ⟨b1, u, b2, b3.ext hx, fun q => (b4 q).le hle⟩⟩
 ·obtain ⟨a1, a2, a3⟩ := h3.tok t t1 t2
  exact ⟨Nat.lt_of_lt_of_le a1 hsz, a2, a3⟩
 ·rw [List.mem_singleton] at he; subst he; rfl
 match i, hi with
 | 0, hi =>
  cases hi
  match j, hj with
  | 0, hj => cases hj; exact ⟨rfl, _, rfl, r0⟩
  | 1, hj => cases hj; exact ⟨rfl, _, rfl, .int _ _⟩
  | 2, hj => cases hj; exact ⟨rfl, _, rfl, .int _ _⟩

/-- A guarded call in a region that draws its order. -/
theorem AOp.callG {C : Ctx} {all : Array Oper} {Q : AEx → St → Prop} {W : List ID} {σ : St} {i : Nat} {o : Oper} {K : St → Prop} {d : Nat} (hi : all[i]? = some o) (hg : OnG all σ o true) {f : Operand} {xs : List Operand} {ts : Array TypeId}
  (hop : o.op = .call { callee := .value f, args := xs.toArray, argTypes := ts }) (hd : o.dst = some d) (hn : d < C.nt)
  {fid : FuncId} {first cap vs : List AV} (hf : oev σ.env f = some (.fn (.func fid) first cap)) (hx : oevs σ.env xs = some vs) (hok : (first ++ (vs ++ cap)).all argok = true)
  (hT : ∀ x ∈ upsOf (tch (first ++ (vs ++ cap))), C.S0.fz x = false) (hW : ∀ x ∈ tch (first ++ (vs ++ cap)), x ∈ W)
  {R : Out → Heap → Nat → Prop} (hc : ACalls C.P fid (first ++ (vs ++ cap)) (C.heap σ) σ.tk R)
  (h : CallK C σ (fun σ' v => K (σ'.put d v)) (fun σ' v => Q (.pan v) { σ' with env := [] }) R) : AOp C all Q W i K σ := by
 intro a w S hat hl
 have hTT : ∀ x, C.S0.fz x = true → tfz (tch (first ++ (vs ++ cap))) (.up x) = true := fun x hx => decide_eq_true fun hm => by
  rw [hT x (mem_upsOf hm)] at hx; cases hx
 unfold wpOp
 simp only [hi, wanted_on hat hg, if_true]
 refine .inl (call_wp hat hop hf hx hok hc (fun v u S' q1 q2 q3 q4 => ?_) (fun v u S' q1 q2 q3 q4 => ?_) (fun ob u S' _ _ _ q => absurd q (h.2.2 _ _ _)))
 ·obtain ⟨σ', e1, e2, e3, e4, hr⟩ := h.1 v _ _ q4
  have hat' := (hat.fz (tfz (tch (first ++ (vs ++ cap))))).called q1 hTT q2 e2.symm e3.symm e1 e4
  rw [hd]
  exact ⟨S', _, hat'.put hn (.clo q3), (keep_call hat q1).mono hW, hr⟩
 obtain ⟨σ', e1, e2, e3, e4, hr⟩ := h.2.1 v _ _ q4
 have hat' := (hat.fz (tfz (tch (first ++ (vs ++ cap))))).called q1 hTT q2 e2.symm e3.symm e1 e4
 exact ⟨S', { σ' with env := [] }, v, u, rfl, hat'.weaken [] (fun i v hv => by simp [look] at hv), rfl, q3, hr⟩

theorem rem_ne {k : IntKind} {a b : Int} (h : b ≠ 0) : abin .rem (.int k a) (.int k b) = some (.int k (a.tmod b)) := by
 simp only [abin, arI, decide_eq_true_eq, decide_true, if_true, h, decide_false]
/-- A row built in a region that draws its order, to be written there. -/
theorem build_new {C : Ctx} {Γ : TTab} (hG : GOK C.P Γ) {σ : St} {op : Oper} {T e : TypeId} {n : Nat} {ps : List (Nat × Operand)} (ho : op.op = .buildSlice T n ps.toArray) {i ie : TI} (hT : look T Γ = some i) (hd : i.desc = .slice e)
  (he : look e Γ = some ie) {d : Nat} (hfree : look d σ.l = none) {vs : List (Nat × AV)} (hv : oevp σ.env ps = some vs) {es : List (List AV)} (h : abs ie.size 0 vs = some es) (hn : es.length = n) (hsm : n * ie.size ≤ 16777216) (h0 : n ≠ 0) {a : Act} {w : World} {S : Sit} (hat : At C σ a w S) :
  ∃ u w' S', (execOp a.eval op).run C.P w = .ok (.value u) w' ∧ At C ⟨σ.env, (d, ⟨e, ie.size, false, es⟩) :: σ.l, σ.b, σ.O, σ.tk⟩ a w' S' ∧ Rep S' (.osl (.loc d)) u ∧ KeepW S S' [] ∧ S.w.heap.size ≤ S'.β (.loc d) ∧ (S'.O (.loc d)).isSome = true := by
 have hwS := hat.w
 subst hwS
 have hU := (hG T i hT).und
 rw [hd] at hU
 have hE := hG e ie he
 obtain ⟨ti, z, z1, z2, z3, z4, z5, z6⟩ := zero_rep hE S
 obtain ⟨v1, v2⟩ := oevp_rep hat hv
 have hvl : vs.length = es.length := by
  obtain ⟨g1, _⟩ := abs_rep (S := S) (us := ps.map fun x => (x.1, a.eval x.2)) (ucells := Array.replicate ((0 + vs.length) * ie.size) undef) h v1 v2 (by simp)
  exact g1.symm
 have hmaxn : n ≤ maxLen := by
  have hp := hE.pos
  have := Nat.le_mul_of_pos_right n hp
  have : n ≤ 16777216 := by omega
  exact Nat.le_trans this (by unfold maxLen; decide)
 have hpos : 0 < n * ie.size := Nat.mul_pos (Nat.pos_of_ne_zero h0) hE.pos
 have hzs : (Array.map (fun x => z.cells[x % z.cells.size]!) (Array.range (n * ie.size))).size = n * ie.size := by simp
 obtain ⟨g1, g2, out, g3, g4, g5, g6⟩ := abs_rep (S := S) (us := ps.map fun x => (x.1, a.eval x.2)) (ucells := (Array.range (n * ie.size)).map (z.cells[· % z.cells.size]!)) h v1 v2 (by rw [hzs, hvl, hn, Nat.zero_add]; exact Nat.le_refl _)
 rw [hzs] at g4
 obtain ⟨S', hat', hmov, hβ, hO⟩ := hat.add hfree ⟨e, ie.size, false, es⟩ out (by rw [g4, hn]; exact Nat.le_refl _) (fun h => by cases h) g2 (fun i e j v hi hj => by
  obtain ⟨t1, u, t2, t3⟩ := g6 i e j v hi hj
  rw [Nat.zero_add] at t2
  exact ⟨cl_d1 t1, u, t2, .clo t3, fun _ => t3⟩) _ (.inr rfl)
 refine ⟨.slice (some ⟨S.w.heap.size, 0, none⟩) n n, _, S', ?_, hat', ?_, keep_alloc hmov (.inl hat'.w), by rw [hβ]; exact Nat.le_refl _, by rw [hO]; rfl⟩
 ·have hrun := run_buildSlice (P := C.P) S.w T e n (ps.toArray.map fun x => (x.1, a.eval x.2)) out ti z hU z1 z4 (by rw [z2]; omega) (by rw [z2]; omega) (by rw [z2]; simpa using g3)
  unfold execOp
  simp only [ho, Sem.run_bind, hrun, Result.andThen_ok, Sem.run_pure]
 have := Rep.osl (S := S') (.loc d) _ n _ hO rfl (by rw [hβ, hat'.w]; exact heap_alloc_new S.w _) g4 (by rw [hn]; exact Nat.le_refl _) hmaxn
 simpa [hβ, hn] using this

theorem AOpN.build {C : Ctx} {all : Array Oper} {Q : AEx → St → Prop} {W : List ID} {fuel : Nat} {listed : Array Bool} {σ : St} {Γ : TTab} (hG : GOK C.P Γ) {i : Nat} {o : Oper} {d : Nat} (hi : all[i]? = some o) (hg : o.guard = none) (hd : o.dst = some d) (hn : d < C.nt) {T e : TypeId} {n : Nat} {ps : List (Nat × Operand)} (ho : o.op = .buildSlice T n ps.toArray)
  {ti ie : TI} (hT : look T Γ = some ti) (hds : ti.desc = .slice e) (he : look e Γ = some ie) (hfree : look d σ.l = none) {vs : List (Nat × AV)} (hv : oevp σ.env ps = some vs) {es : List (List AV)} (ha : abs ie.size 0 vs = some es) (hln : es.length = n) (hsm : n * ie.size ≤ 16777216 ∧ n ≠ 0)
  (h : AAny C all Q (.loc d :: W) fuel (listed.setIfInBounds i true) (St.put ⟨σ.env, (d, ⟨e, ie.size, false, es⟩) :: σ.l, σ.b, σ.O, σ.tk⟩ d (.osl (.loc d)))) : AOpN C all Q W fuel listed i σ := by
 intro a w S hat hl
 obtain ⟨u, w', S', r1, e1, e2, e3, e4, e5⟩ := build_new hG ho hT hds he hfree hv ha hln hsm.1 hsm.2 hat
 have hw := e1.w
 subst hw
 unfold wpOp
 simp only [hi, Region.wanted, hg, if_true]
 refine .inl ?_
 unfold Oper.wp
 rw [r1]
 simp only [Oper.upon, hd]
 have hreb : ∀ w1, Held S' (.loc d :: W) w1 → Held S W w1 := by
  intro w1 hw1
  refine ⟨Nat.le_trans e3.1.1 hw1.1, fun b hb hW => ?_⟩
  rw [hw1.2 b (Nat.lt_of_lt_of_le hb e3.1.1) ?_]
  ·exact e3.1.2 b hb fun x hm => by cases hm
  intro x hm e
  rcases List.mem_cons.1 hm with rfl | hm
  ·omega
  rcases (e3.2 x (hl x hm)).2 with q | q
  ·exact hW x hm (q ▸ e)
  omega
 refine ⟨e3.1.mono (fun _ h => by cases h), wpAnyH_rebase hreb _ _ _ _ (h _ _ S' (e1.put hn e2) fun x hm => ?_)⟩
 rcases List.mem_cons.1 hm with rfl | hm
 ·exact e5
 exact (e3.2 x (hl x hm)).1

end Go.Am
