/- The abstract memory logic, twenty-third part: guarded operations, results that are pointers to new memory, calls that write into one object. -/
import Derived.Test.YtklchmkanhpeeaaAmV
import Derived.Laws.Small
namespace Go.Am
open Go

theorem rep_undef {S : Sit} : Rep S (.tup []) undef := .clo (.tup [] #[] rfl (fun j x h => by simp at h))

/-- A guarded operation: whether it is carried out ('.tup []': what it hangs on was itself not carried out). -/
def OnG (all : Array Oper) (σ : St) (o : Oper) (b : Bool) : Prop := ∃ j want i, o.guard = some (j, want) ∧ (all[j]?).bind (·.dst) = some i ∧ ((∃ v, look i σ.env = some (.bool v) ∧ (v == want) = b) ∨ look i σ.env = some (.tup []) ∧ b = false)

theorem on_of {all : Array Oper} {σ : St} {o : Oper} {j : Nat} {want : Bool} {i : Nat} {v b : Bool} (hg : o.guard = some (j, want)) (hj : (all[j]?).bind (·.dst) = some i) (hv : look i σ.env = some (.bool v)) (hb : (v == want) = b) : OnG all σ o b := ⟨j, want, i, hg, hj, .inl ⟨v, hv, hb⟩⟩
theorem off_un {all : Array Oper} {σ : St} {o : Oper} {j : Nat} {want : Bool} {i : Nat} (hg : o.guard = some (j, want)) (hj : (all[j]?).bind (·.dst) = some i) (hv : look i σ.env = some (.tup [])) : OnG all σ o false := ⟨j, want, i, hg, hj, .inr ⟨hv, rfl⟩⟩

theorem wanted_on {C : Ctx} {σ : St} {a : Act} {w : World} {S : Sit} (hat : At C σ a w S) {all : Array Oper} {o : Oper} {b : Bool} (h : OnG all σ o b) : Region.wanted o (yielded all a.tmps) = b := by
  obtain ⟨j, want, i, hg, hj, h⟩ := h
  rcases h with ⟨v, hv, hb⟩ | ⟨hv, hb⟩
  · obtain ⟨u, hu, hr⟩ := hat.env i _ hv
    have := rep_bool hr
    subst this
    subst hb
    unfold Region.wanted yielded
    simp only [hg, hj, Option.bind_some, hu]
    cases v <;> cases want <;> rfl
  · obtain ⟨u, hu, hr⟩ := hat.env i _ hv
    obtain ⟨us, rfl, _, _⟩ := rep_tup hr
    subst hb
    unfold Region.wanted yielded
    simp only [hg, hj, Option.bind_some, hu]
    cases want <;> rfl

section
variable {C : Ctx} {Q : AEx → St → Prop} {ks : List AItem} {σ σ' : St} {all : Array Oper} {o : Oper} {rest : List Oper}

theorem run_opG {v : AV} {d : Nat} {W : List ID} (hg : OnG all σ o true) (hs : Step C W o σ v σ') (hd : o.dst = some d) (hn : d < C.nt)
    (h : Run C Q (.ops all rest :: ks) .normal (σ'.put d v)) : Run C Q (.ops all (o :: rest) :: ks) .normal σ := by
  intro a w S hat
  refine wpList_step fun K hK => ?_
  rw [if_pos (wanted_on hat hg)]
  obtain ⟨u, w', S', h1, hat', hr, _⟩ := hs a w S hat
  have hk := hK _ _ (h _ _ _ (hat'.put hn hr))
  unfold Oper.wp
  rcases h1 with h1 | ⟨h1, rfl⟩
  · rw [h1]; simp only [Oper.upon, hd]; exact hk
  · rw [h1]; simp only [Oper.upon, hd]; exact hk
theorem run_puG {v : AV} {d : Nat} (hg : OnG all σ o true) (hs : Pu C o σ v) (hd : o.dst = some d) (hn : d < C.nt) (h : Run C Q (.ops all rest :: ks) .normal (σ.put d v)) : Run C Q (.ops all (o :: rest) :: ks) .normal σ := run_opG hg hs.step hd hn h
theorem run_rdG {v : AV} {d : Nat} (hg : OnG all σ o true) (hs : Rd C [] o σ v) (hd : o.dst = some d) (hn : d < C.nt) (h : Run C Q (.ops all rest :: ks) .normal (σ.put d v)) : Run C Q (.ops all (o :: rest) :: ks) .normal σ := run_opG hg hs.step hd hn h

/-- One that is not carried out. -/
theorem run_off {d : Nat} (hg : OnG all σ o false) (hd : o.dst = some d) (hn : d < C.nt) (h : Run C Q (.ops all rest :: ks) .normal (σ.put d (.tup []))) : Run C Q (.ops all (o :: rest) :: ks) .normal σ := by
  intro a w S hat
  refine wpList_step fun K hK => ?_
  rw [if_neg (by rw [wanted_on hat hg]; exact fun h => by cases h), hd]
  exact hK _ _ (h _ _ S (hat.put hn rep_undef))

theorem run_callG {d : Nat} (hg : OnG all σ o true) {f : Operand} {xs : List Operand} {ts : Array TypeId}
    (hop : o.op = .call { callee := .value f, args := xs.toArray, argTypes := ts }) (hd : o.dst = some d) (hn : d < C.nt)
    {fid : FuncId} {first cap vs : List AV} (hf : oev σ.env f = some (.fn (.func fid) first cap)) (hx : oevs σ.env xs = some vs) (hok : (first ++ (vs ++ cap)).all argok = true)
    (hT : ∀ x ∈ upsOf (tch (first ++ (vs ++ cap))), C.S0.fz x = false)
    {R : Out → Heap → Nat → Prop} (hc : ACalls C.P fid (first ++ (vs ++ cap)) (C.heap σ) σ.tk R)
    (h : CallK C σ (fun σ' v => Run C Q (.ops all rest :: ks) .normal (σ'.put d v)) (fun σ' v => Run C Q ks (.pan v) { σ' with env := [] }) R) : Run C Q (.ops all (o :: rest) :: ks) .normal σ := by
  intro a w S hat
  refine wpList_step fun K hK => ?_
  rw [if_pos (wanted_on hat hg)]
  have hTT : ∀ x, C.S0.fz x = true → tfz (tch (first ++ (vs ++ cap))) (.up x) = true := fun x hx => decide_eq_true fun hm => by
    rw [hT x (mem_upsOf hm)] at hx; cases hx
  refine call_wp hat hop hf hx hok hc (fun v u S' q1 q2 q3 q4 => ?_) (fun v u S' q1 q2 q3 q4 => ?_) (fun ob u S' _ _ _ q => absurd q (h.2.2 _ _ _))
  · obtain ⟨σ', e1, e2, e3, e4, hr⟩ := h.1 v _ _ q4
    have hat' := (hat.fz (tfz (tch (first ++ (vs ++ cap))))).called q1 hTT q2 e2.symm e3.symm e1 e4
    refine hK _ _ (hr _ _ S' ?_)
    rw [hd]
    exact hat'.put hn (.clo q3)
  · obtain ⟨σ', e1, e2, e3, e4, hr⟩ := h.2.1 v _ _ q4
    have hat' := (hat.fz (tfz (tch (first ++ (vs ++ cap))))).called q1 hTT q2 e2.symm e3.symm e1 e4
    exact ⟨S', { σ' with env := [] }, v, u, rfl, hat'.weaken [] (fun i v hv => by simp [look] at hv), rfl, q3, hr⟩

/-- A truth value that is not known: both cases. -/
theorem run_split {i : Nat} {b : Bool} (hv : look i σ.env = some (.bool b)) (ht : b = true → Run C Q (.ops all rest :: ks) .normal (σ.put i (.bool true))) (hf : b = false → Run C Q (.ops all rest :: ks) .normal (σ.put i (.bool false))) :
    Run C Q (.ops all rest :: ks) .normal σ := by
  have key : ∀ v, look i σ.env = some v → Sub C σ (σ.put i v) := fun v hv a w S hat => ⟨S, by
    have := hat.weaken ((i, v) :: σ.env) (fun j x hj => by
      simp only [look] at hj
      split at hj
      · rename_i hb; cases hj; rw [Nat.eq_of_beq_eq_true hb]; exact .inl hv
      · exact .inl hj)
    exact this, rfl, rfl⟩
  cases b with
  | true => exact run_sub_ops (key _ hv) (ht rfl)
  | false => exact run_sub_ops (key _ hv) (hf rfl)

end

/-! ### A pointer to new memory -/

theorem fin_box {C : Ctx} {σ : St} {fn : Func} {t : Nat} (hrs : fn.results = #[.tmp t]) {k : Nat} {o : Obj} (ht : look t σ.env = some (.optr (.loc k) 0 0)) (hk : look k σ.l = some o) (hb : o.box = true) (hsc : ∀ e ∈ o.es, ∀ v ∈ e, sc v = true)
    {R : Out → Heap → Nat → Prop} (h : R (.box o) (C.out σ) σ.tk) : Results C fn R σ := by
  intro a w S hat
  obtain ⟨u, hu, hr⟩ := hat.env t _ ht
  have hSo : S.O (.loc k) = some o := by rw [hat.O]; exact hk
  have hu2 := rep_optr hat.sim hSo hr
  subst hu2
  obtain ⟨cur, q1, q2, q3, q4, q5⟩ := hat.sim.obj _ _ hSo
  rw [Nat.zero_mul, Nat.zero_add] at hu
  refine ⟨.pointer (some ⟨S.β (.loc k), 0, none⟩), w, S, σ, .box o, ?_, rfl, hat, ⟨S.β (.loc k), cur, rfl, hat.new k (by rw [hk]; rfl), q1, hb, (q3 hb).1, (q3 hb).2, q4, fun i e j v hi hj => ?_⟩, h⟩
  · simp [results, hrs, Array.getD_eq_getD_getElem?, hu]
  · obtain ⟨_, u, s2, s3, _⟩ := q5 i e j v hi hj
    have hv := hsc e (List.mem_of_getElem? hi) v (List.mem_of_getElem? hj)
    exact ⟨hv, u, s2, sc_repc s3 hv⟩

theorem sc_d1 {v : AV} (h : sc v = true) : v.d1 = true := by
  cases v <;> first | rfl | cases h

theorem adopt_call {C : Ctx} {σ : St} {a : Act} {S S' : Sit} (hat : At C σ a S.w S) {d : Nat} (hfree : look d σ.l = none) {o : Obj} {u : Value} (hx : Ext { S with fz := tfz [] } S') (hr : RepOut { S with fz := tfz [] } S' (.box o) (.returned u)) :
    ∃ S'', At C ⟨σ.env, (d, o) :: σ.l, σ.b, σ.O, σ.tk⟩ a S'.w S'' ∧ Rep S'' (.optr (.loc d) 0 0) u ∧ KeepW S S'' [] ∧ S.w.heap.size ≤ S''.β (.loc d) ∧ (S''.O (.loc d)).isSome = true := by
  obtain ⟨b, cur, he, hb, hcur, hbx, h1, hsz, hes, hc⟩ := hr
  cases he
  have hkp := keep_call hat hx
  have hold : ∀ g, g < S.w.heap.size → S'.w.heap[g]? = S.w.heap[g]? := fun g hg => hkp.1.2 g hg fun x hm => by cases hm
  obtain ⟨S'', hat', hmov, hβ, hO⟩ := hat.adopt hfree o cur (by rw [h1, Nat.one_mul, hsz]; exact Nat.le_refl _) (fun _ => ⟨h1, hsz⟩) hes
    (fun i e j v hi hj => by
      obtain ⟨s1, u, s2, s3⟩ := hc i e j v hi hj
      exact ⟨sc_d1 s1, u, s2, .clo (sc_repc (.clo s3) s1), fun _ => sc_repc (.clo s3) s1⟩) S'.w b hb hcur hold hx.size hx.os hx.tape hx.output
  refine ⟨S'', hat', ?_, keep_mov hmov fun g hg _ => by rw [hat'.w]; exact hold g hg, by rw [hβ]; exact hb, by rw [hO]; rfl⟩
  have := Rep.optr (S := S'') (.loc d) 0 0 _ hO
  simpa [hβ] using this

theorem AAny.callBox {C : Ctx} {all : Array Oper} {Q : AEx → St → Prop} {W : List ID} {fuel : Nat} {listed : Array Bool} {σ : St} {i : Nat} (hr : Region.ready .any all listed = [i]) {o : Oper} {d : Nat} (hi : all[i]? = some o) (hg : o.guard = none) {f : Operand} {xs : List Operand} {ts : Array TypeId}
    (hop : o.op = .call { callee := .value f, args := xs.toArray, argTypes := ts }) (hd : o.dst = some d) (hn : d < C.nt)
    {fid : FuncId} {first cap vs : List AV} (hf : oev σ.env f = some (.fn (.func fid) first cap)) (hx : oevs σ.env xs = some vs) (hok : (first ++ (vs ++ cap)).all argok = true) (hT : tch (first ++ (vs ++ cap)) = [])
    {R : Out → Heap → Nat → Prop} (hc : ACalls C.P fid (first ++ (vs ++ cap)) (C.heap σ) σ.tk R) (hfree : look d σ.l = none) {ob : Obj} (hR : ∀ out O' tk', R out O' tk' → out = .box ob)
    (h : AAny C all Q (.loc d :: W) fuel (listed.setIfInBounds i true) (St.put ⟨σ.env, (d, ob) :: σ.l, σ.b, σ.O, σ.tk⟩ d (.optr (.loc d) 0 0))) : AAny C all Q W (fuel + 1) listed σ := by
  intro a w S hat hl
  have hwS := hat.w
  subst hwS
  refine wpAnyH_all hr (fun h => by cases h) fun j hj => ?_
  rw [List.mem_singleton] at hj
  subst hj
  unfold wpOp
  simp only [hi, Region.wanted, hg, if_true]
  refine .inl (call_wp hat hop hf hx hok hc (fun v u S' _ _ _ q => by cases hR _ _ _ q) (fun v u S' _ _ _ q => by cases hR _ _ _ q) (fun ob' u S' q1 q2 q3 q4 => ?_))
  cases hR _ _ _ q4
  rw [hT] at q1 q3
  obtain ⟨S'', e1, e2, e3, e4, e5⟩ := adopt_call hat hfree q1 q3
  have hw := e1.w
  rw [hd, ← hw]
  rw [← hw] at e1
  have hk : Held S W S''.w := e3.1.mono fun _ h => by cases h
  have hreb : ∀ w1, Held S'' (.loc d :: W) w1 → Held S W w1 := by
    intro w1 hw1
    refine ⟨Nat.le_trans e3.1.1 hw1.1, fun b hb hW => ?_⟩
    rw [hw1.2 b (Nat.lt_of_lt_of_le hb e3.1.1) ?_]
    · exact e3.1.2 b hb fun x hm => by cases hm
    · intro x hm e
      rcases List.mem_cons.1 hm with rfl | hm
      · omega
      · rcases (e3.2 x (hl x hm)).2 with q | q
        · exact hW x hm (q ▸ e)
        · omega
  refine ⟨hk, wpAnyH_rebase hreb _ _ _ _ (h _ _ S'' (e1.put hn e2) fun x hm => ?_)⟩
  rcases List.mem_cons.1 hm with rfl | hm
  · exact e5
  · exact (e3.2 x (hl x hm)).1

/-! ### A call that writes into one object -/

def RetU (O : Heap) (x : ID) (tk : Nat) (P : AV → Obj → Prop) (out : Out) (O' : Heap) (tk' : Nat) : Prop := ∃ v o', out = .ret v ∧ O' = upd O x o' ∧ tk' = tk ∧ P v o'

theorem callK_retU_loc {C : Ctx} {σ : St} {K KP : St → AV → Prop} {k : Nat} {o : Obj} (hk : look k σ.l = some o) {P : AV → Obj → Prop} (h : ∀ v o', P v o' → K ⟨σ.env, setl k o' σ.l, σ.b, σ.O, σ.tk⟩ v) : CallK C σ K KP (RetU (C.heap σ) (.loc k) σ.tk P) :=
  ⟨fun v' O' tk' ⟨v, o', h1, h2, h3, h4⟩ => by
    cases h1
    refine ⟨⟨σ.env, setl k o' σ.l, σ.b, σ.O, σ.tk⟩, rfl, ?_, h3.symm, rfl, h _ _ h4⟩
    rw [h2]
    funext z
    cases z with
    | loc i =>
      show look i (setl k o' σ.l) = upd (C.heap σ) (.loc k) o' (.loc i)
      rw [look_setl (by rw [hk]; rfl) i]
      unfold upd
      by_cases hi : i = k
      · subst hi; simp
      · rw [if_neg hi, if_neg (fun e => hi (by cases e; rfl))]; rfl
    | bor i => unfold upd; rw [if_neg (fun e => by cases e)]; rfl
    | up z => unfold upd; rw [if_neg (fun e => by cases e)]; rfl, fun v O' tk' ⟨_, _, h2, _⟩ => (by cases h2), fun ob O' tk' ⟨_, _, h2, _⟩ => (by cases h2)⟩

theorem callK_retU_bor {C : Ctx} {σ : St} {K KP : St → AV → Prop} {k : Nat} {o : Obj} (hk : σ.b[k]? = some o) {P : AV → Obj → Prop} (hup : ∀ v o', P v o' → o'.up = o') (h : ∀ v o', P v o' → K ⟨σ.env, σ.l, σ.b.set k o', σ.O, σ.tk⟩ v) : CallK C σ K KP (RetU (C.heap σ) (.bor k) σ.tk P) :=
  ⟨fun v' O' tk' ⟨v, o', h1, h2, h3, h4⟩ => by
    cases h1
    refine ⟨⟨σ.env, σ.l, σ.b.set k o', σ.O, σ.tk⟩, rfl, ?_, h3.symm, by simp, h _ _ h4⟩
    have hlt : k < σ.b.length := (List.getElem?_eq_some_iff.1 hk).1
    rw [h2]
    funext z
    cases z with
    | loc i => unfold upd; rw [if_neg (fun e => by cases e)]; rfl
    | bor i =>
      show ((σ.b.set k o')[i]?).map Obj.up = upd (C.heap σ) (.bor k) o' (.bor i)
      unfold upd
      by_cases hi : i = k
      · subst hi; simp [hlt, hup _ _ h4]
      · rw [if_neg (fun e => hi (by cases e; rfl)), List.getElem?_set_ne (Ne.symm hi)]; rfl
    | up z => unfold upd; rw [if_neg (fun e => by cases e)]; rfl, fun v O' tk' ⟨_, _, h2, _⟩ => (by cases h2), fun ob O' tk' ⟨_, _, h2, _⟩ => (by cases h2)⟩

theorem bool_step {C : Ctx} {Γ : TTab} (hG : GOK C.P Γ) {σ : St} {o : Oper} {op : BinOp} {T T' : TypeId} {x y : Operand} (ho : o.op = .binOp op T x y T') {b c : Bool} {v : AV} (hx : oev σ.env x = some (.bool b)) (hy : oev σ.env y = some (.bool c))
    {i : TI} (hT : look T Γ = some i) (hd : i.desc = .bool) (h : abin op (.bool b) (.bool c) = some v) : Pu C o σ v := by
  intro a w S hat
  have ux := rep_bool (oev_rep hat hx)
  have uy := rep_bool (oev_rep hat hy)
  have hU := (hG T i hT).und
  rw [hd] at hU
  unfold abin at h
  simp only at h
  split at h <;> cases h
  · refine ⟨.bool (b == c), ?_, .clo (.bool _)⟩
    intro w1
    unfold execOp
    simp only [ho, ux, uy, eqGuard_at_bool]
    simp [binOp, run_equal_bool w1 T b c hU]
  · refine ⟨.bool !(b == c), ?_, .clo (.bool _)⟩
    intro w1
    unfold execOp
    simp only [ho, ux, uy, eqGuard_at_bool]
    simp [binOp, run_equal_bool w1 T b c hU]

/-- Where two roads meet: what holds of every state behind the code. -/
theorem run_cut {C : Ctx} {Q : AEx → St → Prop} {ks : List AItem} {σ : St} {c : Code} (J : St → Prop)
    (h : Run C (fun e σ' => match e with | .normal => J σ' | e => Run C Q ks e σ') [.code c] .normal σ) (hk : ∀ σ', J σ' → Run C Q ks .normal σ') : Run C Q (.code c :: ks) .normal σ := by
  intro a w S hat
  refine Code.wp_mono (QC.mono fun e σ' hq => ?_) (h a w S hat)
  cases e with
  | normal => exact hk σ' hq
  | exit id => exact hq
  | ret => exact hq
  | pan v => exact hq

end Go.Am
