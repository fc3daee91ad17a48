/- The abstract memory logic, nineteenth part: calls, results, forgetting, loops. -/
import Derived.Test.YtklchmkanhpeeaaAmR
namespace Go.Am
open Go

/-! ### Which objects a call may touch is the caller's to say -/
section
variable {S : Sit} (f : ID → Bool)

theorem fz_le : Le S { S with fz := f } := ⟨Nat.le_refl _, rfl, rfl, rfl, rfl, Nat.le_refl _, fun _ _ => rfl, fun _ h => ⟨h, rfl⟩⟩
theorem fz_mov : Mov S { S with fz := f } (fun _ => False) := ⟨fz_le f, fun x o h _ => ⟨o, h, rfl, rfl, rfl, rfl, rfl, fun cur hc => ⟨cur, hc, rfl⟩⟩, fun _ _ h => ⟨h, rfl⟩⟩
theorem fz_rep {v : AV} {u : Value} (h : Rep S v u) : Rep { S with fz := f } v u := h.mov0 (fz_mov f)
theorem fz_sim (h : SimH S) : SimH { S with fz := f } := ⟨fun x o hx => by
    obtain ⟨cur, q1, q2, q3, q4, q5⟩ := h.obj x o hx
    exact ⟨cur, q1, q2, q3, q4, fun i e j v hi hj => let ⟨r1, u, r2, r3, r4⟩ := q5 i e j v hi hj; ⟨r1, u, r2, fz_rep f r3, fun hb => (r4 hb).le (fz_le f)⟩⟩,
  h.inj, h.base, h.tok, h.tinj, h.b0, h.hid, h.tk2⟩
theorem At.fz {C : Ctx} {σ : St} {a : Act} {w : World} (h : At C σ a w S) : At C σ a w { S with fz := f } :=
  ⟨h.w, h.O, h.tk, fz_sim f h.sim, fun i v hv => let ⟨u, h1, h2⟩ := h.env i v hv; ⟨u, h1, fz_rep f h2⟩, h.nt, h.defers, h.ext, h.new, h.bl, h.nd, h.bb, h.h0, h.hl, h.hu, h.hv, h.hf⟩
end

theorem rep_fn {S : Sit} {f : Fn} {first cap : List AV} {u : Value} (h : Rep S (.fn f first cap) u) : ∃ us1 us2 : Array Value, u = .func f us1 us2 ∧ us1.size = first.length ∧ us2.size = cap.length ∧
    (∀ j x, first[j]? = some x → Rep S x (us1.getD j undef)) ∧ ∀ j x, cap[j]? = some x → Rep S x (us2.getD j undef) := by
  cases h with
  | clo h =>
    cases h with
    | fn _ _ _ us1 us2 l1 l2 h1 h2 => exact ⟨us1, us2, rfl, l1, l2, fun j x hx => .clo (h1 j x hx), fun j x hx => .clo (h2 j x hx)⟩
  | fn _ _ _ us1 us2 l1 l2 h1 h2 => exact ⟨us1, us2, rfl, l1, l2, h1, h2⟩

def tfz (T : List ID) (x : ID) : Bool := decide (x ∉ T)

/-- A call of a function value. -/
theorem call_wp {C : Ctx} {σ : St} {a : Act} {w : World} {S : Sit} (hat : At C σ a w S) {o : Oper} {f : Operand} {xs : List Operand} {ts : Array TypeId} (hop : o.op = .call { callee := .value f, args := xs.toArray, argTypes := ts })
    {fid : FuncId} {first cap vs : List AV} (hf : oev σ.env f = some (.fn (.func fid) first cap)) (hx : oevs σ.env xs = some vs) (hok : (first ++ (vs ++ cap)).all argok = true)
    {R : Out → Heap → Nat → Prop} (hc : ACalls C.P fid (first ++ (vs ++ cap)) (C.heap σ) σ.tk R) {K : Act → World → Prop} {Q : Exit → Act → World → Prop}
    (hret : ∀ v u S', Ext { S with fz := tfz (tch (first ++ (vs ++ cap))) } S' → SimH S' → RepC S' v u → R (.ret v) S'.O S'.tk → K (a.put o.dst u) S'.w)
    (hpan : ∀ v u S', Ext { S with fz := tfz (tch (first ++ (vs ++ cap))) } S' → SimH S' → RepC S' v u → R (.pan v) S'.O S'.tk → Q (.panic [{ v := u, recovered := false }]) a S'.w)
    (hbox : ∀ ob u S', Ext { S with fz := tfz (tch (first ++ (vs ++ cap))) } S' → SimH S' → RepOut { S with fz := tfz (tch (first ++ (vs ++ cap))) } S' (.box ob) (.returned u) → R (.box ob) S'.O S'.tk → K (a.put o.dst u) S'.w) : o.wp C.P a w K Q := by
  have hwS := hat.w
  subst hwS
  obtain ⟨us1, us2, hu, l1, l2, r1, r2⟩ := rep_fn (oev_rep hat hf)
  obtain ⟨l3, r3⟩ := oevs_rep hat hx
  obtain ⟨⟨fn, c, q1, q2, q3⟩, hc⟩ := hc
  let S1 : Sit := { S with fz := tfz (tch (first ++ (vs ++ cap))) }
  have hrun : (execOp a.eval o).run C.P S.w = .ok (.enter fid (us1 ++ (xs.map a.eval).toArray ++ us2)) S.w := by
    unfold execOp
    simp only [hop, resolve, hu, Deferred.ofValue, Sem.run_bind, Sem.run_pure, Result.andThen_ok, invoke, List.map_toArray]
    exact MuLone.run_callFunc_enter q1 q2 q3 _ _
  have hlen : (us1 ++ (xs.map a.eval).toArray ++ us2).size = (first ++ (vs ++ cap)).length := by
    have l3' : (xs.map a.eval).length = vs.length := l3
    simp only [List.length_map] at l3'
    simp [l1, l2, l3', Nat.add_assoc]
  have hargs : ∀ j v, (first ++ (vs ++ cap))[j]? = some v → Arg S1 v ((us1 ++ (xs.map a.eval).toArray ++ us2).getD j undef) := by
    intro j v hj
    have hk : argok v = true := List.all_eq_true.1 hok v (List.mem_of_getElem? hj)
    refine argok_arg (fz_rep _ ?_) hk
    have l3' : (xs.map a.eval).toArray.size = vs.length := by simpa using l3
    by_cases h1 : j < first.length
    · rw [List.getElem?_append_left h1] at hj
      have hq := r1 j v hj
      have e : (us1 ++ (xs.map a.eval).toArray ++ us2).getD j undef = us1.getD j undef := by
        simp only [Array.getD_eq_getD_getElem?]
        rw [Array.getElem?_append_left (by simp; omega), Array.getElem?_append_left (by omega)]
      rw [e]; exact hq
    · rw [List.getElem?_append_right (by omega)] at hj
      by_cases h2 : j - first.length < vs.length
      · rw [List.getElem?_append_left h2] at hj
        have hq := r3 (j - first.length) v hj
        have e : (us1 ++ (xs.map a.eval).toArray ++ us2).getD j undef = (xs.map a.eval).getD (j - first.length) undef := by
          simp only [Array.getD_eq_getD_getElem?, List.getD_eq_getElem?_getD]
          rw [Array.getElem?_append_left (by rw [Array.size_append]; omega), Array.getElem?_append_right (by omega), l1]
          simp
        rw [e]; exact hq
      · rw [List.getElem?_append_right (by omega)] at hj
        have hq := r2 _ v hj
        have e : (us1 ++ (xs.map a.eval).toArray ++ us2).getD j undef = us2.getD (j - first.length - vs.length) undef := by
          simp only [Array.getD_eq_getD_getElem?]
          rw [Array.getElem?_append_right (by rw [Array.size_append]; omega), Array.size_append, l1, l3', Nat.sub_sub]
        rw [e]; exact hq
  have hcalls := hc S1 _ hat.O hat.tk (fz_sim _ hat.sim) (fun x hx => by show tfz _ x = false; unfold tfz; exact decide_eq_false (fun h => h hx)) hlen hargs
  unfold Oper.wp
  rw [hrun, Oper.upon_enter]
  refine hcalls.mono fun e w' ⟨out, S', s1, s2, s3, s4, s5⟩ => ?_
  subst s1
  cases out with
  | ret v =>
    obtain ⟨u, rfl, hu⟩ := s4
    exact hret v u S' s3 s2 hu s5
  | pan v =>
    obtain ⟨u, rfl, hu⟩ := s4
    exact hpan v u S' s3 s2 hu s5
  | box ob =>
    have s4' := s4
    obtain ⟨b, cur, rfl, _⟩ := s4'
    exact hbox ob _ S' s3 s2 s4 s5

/-- What a call that touches no more than W leaves. -/
theorem keep_call {C : Ctx} {σ : St} {a : Act} {w : World} {S S' : Sit} (hat : At C σ a w S) {T : List ID} (hx : Ext { S with fz := tfz T } S') : KeepW S S' T := by
  refine ⟨⟨hx.size, fun b hb hW => ?_⟩, fun x hx' => ?_⟩
  · by_cases hl : S.live b
    · obtain ⟨x, hx', rfl⟩ := hl
      obtain ⟨o, ho⟩ := Option.isSome_iff_exists.1 hx'
      obtain ⟨_, _, _, _, _, _, q⟩ := hx.obj x o ho
      exact (q (.inr (decide_eq_true fun hm => hW x hm rfl))).2
    · exact (hx.con b ⟨hb, hl⟩).2
  · obtain ⟨o, ho⟩ := Option.isSome_iff_exists.1 hx'
    obtain ⟨o', h1, _, _, _, h2, _⟩ := hx.obj x o ho
    exact ⟨by rw [h1]; rfl, .inl h2⟩

/-- What is asked of what follows a call. -/
def CallK (C : Ctx) (σ : St) (K : St → AV → Prop) (KP : St → AV → Prop) (R : Out → Heap → Nat → Prop) : Prop :=
  (∀ v O' tk', R (.ret v) O' tk' → ∃ σ', σ'.env = σ.env ∧ C.heap σ' = O' ∧ σ'.tk = tk' ∧ σ'.b.length = σ.b.length ∧ K σ' v) ∧
  (∀ v O' tk', R (.pan v) O' tk' → ∃ σ', σ'.env = σ.env ∧ C.heap σ' = O' ∧ σ'.tk = tk' ∧ σ'.b.length = σ.b.length ∧ KP σ' v) ∧
  ∀ ob O' tk', ¬ R (.box ob) O' tk'

def upsOf : List ID → List ID
  | [] => []
  | x :: r => match x with
    | .up y => y :: upsOf r
    | _ => upsOf r

theorem mem_upsOf : ∀ {l : List ID} {y : ID}, ID.up y ∈ l → y ∈ upsOf l
  | x :: r, y, h => by
    unfold upsOf
    rcases List.mem_cons.1 h with rfl | h
    · simp
    · have := mem_upsOf h
      split <;> simp [this]

theorem run_call {C : Ctx} {Q : AEx → St → Prop} {ks : List AItem} {σ : St} {all : Array Oper} {o : Oper} {rest : List Oper} {d : Nat} (hg : o.guard = none) {f : Operand} {xs : List Operand} {ts : Array TypeId}
    (hop : o.op = .call { callee := .value f, args := xs.toArray, argTypes := ts }) (hd : o.dst = some d) (hn : d < C.nt)
    {fid : FuncId} {first cap vs : List AV} (hf : oev σ.env f = some (.fn (.func fid) first cap)) (hx : oevs σ.env xs = some vs) (hok : (first ++ (vs ++ cap)).all argok = true)
    (hT : ∀ x ∈ upsOf (tch (first ++ (vs ++ cap))), C.S0.fz x = false)
    {R : Out → Heap → Nat → Prop} (hc : ACalls C.P fid (first ++ (vs ++ cap)) (C.heap σ) σ.tk R)
    (h : CallK C σ (fun σ' v => Run C Q (.ops all rest :: ks) .normal (σ'.put d v)) (fun σ' v => Run C Q ks (.pan v) { σ' with env := [] }) R) : Run C Q (.ops all (o :: rest) :: ks) .normal σ := by
  intro a w S hat
  refine wpList_plain hg fun K hK => ?_
  have hTT : ∀ x, C.S0.fz x = true → tfz (tch (first ++ (vs ++ cap))) (.up x) = true := fun x hx => decide_eq_true fun hm => by
    rw [hT x (mem_upsOf hm)] at hx; cases hx
  refine call_wp hat hop hf hx hok hc (fun v u S' q1 q2 q3 q4 => ?_) (fun v u S' q1 q2 q3 q4 => ?_) (fun ob u S' _ _ _ q => absurd q (h.2.2 _ _ _))
  · obtain ⟨σ', e1, e2, e3, e4, hr⟩ := h.1 v _ _ q4
    have hat' := (hat.fz (tfz (tch (first ++ (vs ++ cap))))).called q1 hTT q2 e2.symm e3.symm e1 e4
    refine hK _ _ (hr _ _ S' ?_)
    rw [hd]
    exact hat'.put hn (.clo q3)
  · obtain ⟨σ', e1, e2, e3, e4, hr⟩ := h.2.1 v _ _ q4
    have hat' := (hat.fz (tfz (tch (first ++ (vs ++ cap))))).called q1 hTT q2 e2.symm e3.symm e1 e4
    exact ⟨S', { σ' with env := [] }, v, u, rfl, hat'.weaken [] (fun i v hv => by simp [look] at hv), rfl, q3, hr⟩

/-- A call that gives back one value and leaves all else. -/
def Ret1 (O : Heap) (tk : Nat) (P : AV → Prop) (out : Out) (O' : Heap) (tk' : Nat) : Prop := O' = O ∧ ∃ v, out = .ret v ∧ tk' = tk ∧ P v

theorem callK_ret1 {C : Ctx} {σ : St} {K KP : St → AV → Prop} {P : AV → Prop} (h : ∀ v, P v → K σ v) : CallK C σ K KP (Ret1 (C.heap σ) σ.tk P) :=
  ⟨fun v O' tk' ⟨h1, v', h2, h3, h4⟩ => by cases h2; exact ⟨σ, rfl, h1.symm, h3.symm, rfl, h v h4⟩, fun v O' tk' ⟨_, _, h2, _⟩ => (by cases h2), fun ob O' tk' ⟨_, _, h2, _⟩ => (by cases h2)⟩

/-! ### Results -/

def outc : AV → Bool
  | .agg cs => cs.all cl
  | .fn _ a b => a.all cl && b.all cl
  | .cptr _ => true
  | v => cl v

theorem outc_repc {S : Sit} {v : AV} {u : Value} (h : Rep S v u) (hv : outc v = true) : RepC S v u := by
  cases v with
  | agg cs =>
    obtain ⟨us, rfl, hl, hs, hr⟩ := rep_agg h
    exact .agg cs us hl hs fun j x hj => cl_repc (hr j x hj) (List.all_eq_true.1 hv x (List.mem_of_getElem? hj))
  | fn f a b =>
    obtain ⟨us1, us2, rfl, l1, l2, r1, r2⟩ := rep_fn h
    simp only [outc, Bool.and_eq_true] at hv
    exact .fn f a b us1 us2 l1 l2 (fun j x hj => cl_repc (r1 j x hj) (List.all_eq_true.1 hv.1 x (List.mem_of_getElem? hj))) (fun j x hj => cl_repc (r2 j x hj) (List.all_eq_true.1 hv.2 x (List.mem_of_getElem? hj)))
  | cptr cs => exact rep_cptr h
  | any => cases hv
  | jnk => cases hv
  | osl x => cases hv
  | optr x i off => cases hv
  | iface t v => cases hv
  | tup cs => cases hv
  | int k n => exact cl_repc h rfl
  | bool b => exact cl_repc h rfl
  | str s => exact cl_repc h rfl
  | nilp => exact cl_repc h rfl
  | imm a b c d => exact cl_repc h rfl
  | nilfn => exact cl_repc h rfl
  | nilif => exact cl_repc h rfl

/-- What the function's results come to. -/
def ares (Γ : TTab) (H : Heap) (env : List (Nat × AV)) : List ResultVar → Option (List AV)
  | [] => some []
  | r :: rs => match (match r with
      | .tmp t => look t env
      | .cell a t => match look a env with
        | some p => aload Γ H t p
        | none => none) with
    | some v => match ares Γ H env rs with
      | some vs => some (v :: vs)
      | none => none
    | none => none

def outOf : List AV → AV
  | [v] => v
  | vs => .tup vs

theorem load_run {C : Ctx} {Γ : TTab} (hG : GOK C.P Γ) {σ : St} {a : Act} {w : World} {S : Sit} (hat : At C σ a w S) {T : TypeId} {t : Nat} {p v : AV} (hx : look t σ.env = some p) (h : aload Γ (C.heap σ) T p = some v) :
    ∃ u, (do loadVar T (← asAddr (a.tmps.getD t undef)) : Sem Value).run C.P w = .ok u w ∧ Rep S v u := by
  have hl : ldok [] p := by
    unfold aload at h
    split at h
    · split at h
      · rename_i cs hcs
        unfold cellsAt at hcs
        split at hcs
        · exact fun h => by cases h
        · trivial
        · cases hcs
      · cases h
    · cases h
  obtain ⟨u, h1, h2⟩ := aload_rd (W := []) hG (o := { dst := none, op := .load T (.tmp t), type := T, pos := "", after := #[], guard := none }) rfl (x := .tmp t) (σ := σ) hx h hl a w S hat (fun _ hm => by cases hm)
  refine ⟨u, ?_, h2⟩
  have h1 := h1 w (hat.w ▸ Held.refl S [])
  unfold execOp at h1
  obtain ⟨cs, hcs⟩ : ∃ cs, cellsAt (C.heap σ) p = some cs := by
    unfold aload at h
    split at h
    · split at h
      · exact ⟨_, by assumption⟩
      · cases h
    · cases h
  obtain ⟨p', hp1, hp2⟩ := hat.env t p hx
  obtain ⟨b, off, hu, _⟩ := cellsAt_rep hat hp2 hcs
  have he : a.eval (.tmp t) = .pointer (some ⟨b, off, none⟩) := by simp [Act.eval, hp1, hu]
  have hg : a.tmps.getD t undef = .pointer (some ⟨b, off, none⟩) := by simp [Array.getD_eq_getD_getElem?, hp1, hu]
  simp only [he, Instr.loadAt, Instr.sureAddr, Sem.run_bind, Sem.run_pure, Result.andThen_ok] at h1
  simp only [hg, asAddr, Sem.run_bind, Sem.run_pure, Result.andThen_ok]
  cases hr : (loadVar T ⟨b, off, none⟩).run C.P w with
  | ok x w' => rw [hr] at h1; simp at h1; rw [h1.1, h1.2]
  | halt x w' => rw [hr] at h1; simp [Result.andThen] at h1

def rvm (tmps : Array Value) : ResultVar → Sem Value
  | .tmp t => pure (tmps.getD t undef)
  | .cell a t => do loadVar t (← asAddr (tmps.getD a undef))

theorem ares_run {C : Ctx} {Γ : TTab} (hG : GOK C.P Γ) {σ : St} {a : Act} {w : World} {S : Sit} (hat : At C σ a w S) : ∀ {rs : List ResultVar} {vs : List AV}, ares Γ (C.heap σ) σ.env rs = some vs →
    ∃ us : List Value, (rs.mapM (rvm a.tmps)).run C.P w = .ok us w ∧ us.length = vs.length ∧ ∀ (j : Nat) (v : AV), vs[j]? = some v → Rep S v (us.getD j undef)
  | [], vs, h => by cases h; exact ⟨[], by simp, rfl, fun j v hj => by simp at hj⟩
  | r :: rs, vs, h => by
    unfold ares at h
    split at h
    · rename_i v hv
      split at h
      · rename_i vs' hvs
        cases h
        obtain ⟨us, h1, h2, h3⟩ := ares_run hG hat hvs
        have hone : ∃ u, (rvm a.tmps r).run C.P w = .ok u w ∧ Rep S v u := by
          cases r with
          | tmp t =>
            obtain ⟨u, hu, hr⟩ := hat.env t v hv
            exact ⟨u, by simp [rvm, Array.getD_eq_getD_getElem?, hu], hr⟩
          | cell x t =>
            simp only at hv
            split at hv
            · rename_i p hp
              exact load_run hG hat hp hv
            · cases hv
        obtain ⟨u, hu, hr⟩ := hone
        refine ⟨u :: us, ?_, by simp [h2], fun j y hj => ?_⟩
        · rw [List.mapM_cons]
          simp only [Sem.run_bind, hu, Result.andThen_ok, h1, Sem.run_pure]
        · cases j with
          | zero => simp at hj; subst hj; simpa using hr
          | succ j => simpa using h3 j y (by simpa using hj)
      · cases h
    · cases h

theorem run_mapM_toArray {α β : Type} (f : α → Sem β) (l : List α) (P : Program) (w : World) {us : List β} (h : (l.mapM f).run P w = .ok us w) : (l.toArray.mapM f).run P w = .ok us.toArray w := by
  rw [List.mapM_toArray]
  simp [h]

theorem fin_ret {C : Ctx} {Γ : TTab} (hG : GOK C.P Γ) {σ : St} {fn : Func} {rs : List ResultVar} (hrs : fn.results = rs.toArray) {vs : List AV} (hv : ares Γ (C.heap σ) σ.env rs = some vs) (hc : vs.all outc = true)
    {R : Out → Heap → Nat → Prop} (h : R (.ret (outOf vs)) (C.out σ) σ.tk) : Results C fn R σ := by
  intro a w S hat
  obtain ⟨us, h1, h2, h3⟩ := ares_run hG hat hv
  have hcl : ∀ (j : Nat) (v : AV), vs[j]? = some v → RepC S v (us.getD j undef) := fun j v hj => outc_repc (h3 j v hj) (List.all_eq_true.1 hc v (List.mem_of_getElem? hj))
  have hrun := run_mapM_toArray _ _ _ _ h1
  have hres : (results fn a.tmps).run C.P w = .ok (if h : us.toArray.size = 1 then us.toArray[0] else .tuple us.toArray) w := by
    have he : results fn a.tmps = (do let vs ← fn.results.mapM (rvm a.tmps); pure (if h : vs.size = 1 then vs[0] else .tuple vs)) := rfl
    rw [he, hrs]
    simp only [Sem.run_bind]
    rw [hrun]
    simp
  refine ⟨_, w, S, σ, .ret (outOf vs), hres, rfl, hat, ⟨_, rfl, RepC.le (out_le hat) ?_⟩, h⟩
  match vs, us, h2, hcl with
  | [], [], _, _ => exact .tup [] #[] rfl (fun j x hj => by simp at hj)
  | [v], [u], _, hcl => exact hcl 0 v rfl
  | v :: v' :: vs, u :: u' :: us, h2, hcl =>
    refine .tup _ _ (by simpa using h2) fun j x hj => ?_
    have := hcl j x hj
    simpa [Array.getD_eq_getD_getElem?, List.getD_eq_getElem?_getD] using this

/-! ### Forgetting -/

def Sub (C : Ctx) (σ σ' : St) : Prop := ∀ a w S, At C σ a w S → ∃ S', At C σ' a w S' ∧ S'.w = S.w ∧ S'.β = S.β

theorem Sub.refl (C : Ctx) (σ : St) : Sub C σ σ := fun _ _ S h => ⟨S, h, rfl, rfl⟩
theorem Sub.trans {C : Ctx} {σ1 σ2 σ3 : St} (h : Sub C σ1 σ2) (k : Sub C σ2 σ3) : Sub C σ1 σ3 := fun a w S hat =>
  let ⟨S', h1, h2, h3⟩ := h a w S hat
  let ⟨S'', k1, k2, k3⟩ := k a w S' h1
  ⟨S'', k1, k2.trans h2, k3.trans h3⟩

def Has (env : List (Nat × AV)) : List (Nat × AV) → Prop
  | [] => True
  | (i, v) :: r => look i env = some v ∧ Has env r

theorem Has.get {env : List (Nat × AV)} : ∀ {l : List (Nat × AV)}, Has env l → ∀ i v, look i l = some v → look i env = some v
  | [], _, i, v, h => by simp [look] at h
  | (j, x) :: r, hh, i, v, h => by
    simp only [look] at h
    split at h
    · rename_i hb
      cases h
      rw [Nat.eq_of_beq_eq_true hb]
      exact hh.1
    · exact hh.2.get i v h

theorem Sub.env {C : Ctx} {σ : St} (env : List (Nat × AV)) (h : Has σ.env env) : Sub C σ { σ with env := env } := fun _ _ S hat =>
  ⟨S, hat.weaken env (fun i v hv => .inl (h.get i v hv)), rfl, rfl⟩

theorem run_sub_code {C : Ctx} {Q : AEx → St → Prop} {ks : List AItem} {σ σ' : St} {c : Code} (hs : Sub C σ σ') (h : Run C Q (.code c :: ks) .normal σ') : Run C Q (.code c :: ks) .normal σ :=
  fun a w S hat => let ⟨S', h1, _⟩ := hs a w S hat; h a w S' h1
theorem run_sub_ops {C : Ctx} {Q : AEx → St → Prop} {ks : List AItem} {σ σ' : St} {all : Array Oper} {rest : List Oper} (hs : Sub C σ σ') (h : Run C Q (.ops all rest :: ks) .normal σ') : Run C Q (.ops all rest :: ks) .normal σ :=
  fun a w S hat => let ⟨S', h1, _⟩ := hs a w S hat; h a w S' h1

/-- A loop: 'I n σ': a description of the state at a round's head, n its measure. -/
theorem run_rounds {C : Ctx} {Q : AEx → St → Prop} {ks : List AItem} {σ : St} {c : Code} (I : Nat → St → Prop) (n : Nat) {σ0 : St} (hs : Sub C σ σ0) (h0 : I n σ0)
    (round : ∀ n σ, I n σ → Run C Q (.code c :: .loop (fun σ' => ∃ m σ0, m < n ∧ I m σ0 ∧ Sub C σ' σ0) :: ks) .normal σ) :
    Run C Q (.code (.loop c) :: ks) .normal σ := by
  refine run_loop (fun n σ => ∃ σ0, I n σ0 ∧ Sub C σ σ0) n ⟨σ0, h0, hs⟩ fun n σ ⟨σ1, h1, h2⟩ => ?_
  refine run_sub_code h2 ?_
  have := round n σ1 h1
  intro a w S hat
  refine Code.wp_mono (QC.mono fun e σ hq => ?_) (this a w S hat)
  cases e with
  | normal =>
    obtain ⟨m, σ0, q1, q2, q3⟩ := hq
    exact ⟨m, q1, σ0, q2, q3⟩
  | exit id => exact hq
  | ret => exact hq
  | pan v => exact hq

end Go.Am
