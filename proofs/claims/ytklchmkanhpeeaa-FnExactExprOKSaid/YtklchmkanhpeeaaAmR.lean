/- The abstract memory logic, eighteenth part: the rule of calls. -/
import Derived.Test.YtklchmkanhpeeaaAmQ
import Derived.Conc.MuLone
namespace Go.Am
open Go

theorem up0_inj {v w : AV} (h : v.up0 = w.up0) : v = w := by
  cases v <;> cases w <;> simp_all [AV.up0]

theorem map_inj {f : AV → AV} (hf : ∀ v w, f v = f w → v = w) : ∀ {l m : List AV}, l.map f = m.map f → l = m
  | [], [], _ => rfl
  | [], _ :: _, h => by cases h
  | _ :: _, [], h => by cases h
  | v :: l, w :: m, h => by
    simp only [List.map_cons, List.cons.injEq] at h
    rw [hf _ _ h.1, map_inj hf h.2]

theorem up_inj {v w : AV} (h : v.up = w.up) : v = w := by
  cases v <;> cases w <;> simp_all [AV.up]
  exact ⟨map_inj (fun _ _ => up0_inj) h.2.1, map_inj (fun _ _ => up0_inj) h.2.2⟩

theorem maps_inj : ∀ {l m : List (List AV)}, l.map (·.map AV.up) = m.map (·.map AV.up) → l = m
  | [], [], _ => rfl
  | [], _ :: _, h => by cases h
  | _ :: _, [], h => by cases h
  | v :: l, w :: m, h => by
    simp only [List.map_cons, List.cons.injEq] at h
    rw [map_inj (fun _ _ => up_inj) h.1, maps_inj h.2]

theorem obj_up_inj {o p : Obj} (h : o.up = p.up) : o = p := by
  obtain ⟨a, b, c, d⟩ := o
  obtain ⟨a', b', c', d'⟩ := p
  simp only [Obj.up, Obj.mk.injEq] at h ⊢
  exact ⟨h.1, h.2.1, h.2.2.1, maps_inj h.2.2.2⟩

/-- Behind a call. -/
theorem At.called {C : Ctx} {σ σ' : St} {a : Act} {w : World} {S S' : Sit} (h : At C σ a w S) (hx : Ext S S') (hT : ∀ x, C.S0.fz x = true → S.fz (.up x) = true) (hs : SimH S') (hO : S'.O = C.heap σ') (htk : S'.tk = σ'.tk) (henv : σ'.env = σ.env) (hbl : σ'.b.length = σ.b.length) : At C σ' a S'.w S' := by
  have hout : ∀ x o, C.out σ x = some o → ∃ z, S.O z = some o.up ∧ S.β z = S.β (.up x) ∧ (z = .up x ∨ x ∈ C.bor) ∧ ∃ o', C.out σ' x = some o' ∧ S'.O z = some o'.up := by
    intro x o ho
    by_cases hm : x ∈ C.bor
    · obtain ⟨k, hk⟩ := List.mem_iff_getElem?.1 hm
      obtain ⟨p, hp⟩ : ∃ p, σ.b[k]? = some p := ⟨_, List.getElem?_eq_getElem (by rw [h.bl]; exact (List.getElem?_eq_some_iff.1 hk).1)⟩
      obtain ⟨p', hp'⟩ : ∃ p, σ'.b[k]? = some p := ⟨_, List.getElem?_eq_getElem (by rw [hbl, h.bl]; exact (List.getElem?_eq_some_iff.1 hk).1)⟩
      have : C.out σ x = some p := OB_get h.nd h.bl hk hp
      rw [this] at ho; cases ho
      exact ⟨.bor k, by rw [h.O]; show (σ.b[k]?).map Obj.up = _; rw [hp]; rfl, h.bb k x hk, .inr hm, p', OB_get h.nd (by rw [hbl, h.bl]) hk hp', by rw [hO]; show (σ'.b[k]?).map Obj.up = _; rw [hp']; rfl⟩
    · have : C.out σ x = σ.O x := OB_not hm
      rw [this] at ho
      have hSx : S.O (.up x) = some o.up := by rw [h.O]; show (if x ∈ C.bor then none else (σ.O x).map Obj.up) = _; rw [if_neg hm, ho]; rfl
      obtain ⟨o1, q1, _⟩ := hx.obj _ _ hSx
      have q2 := q1
      rw [hO] at q2
      have q3 : (if x ∈ C.bor then none else (σ'.O x).map Obj.up) = some o1 := q2
      rw [if_neg hm] at q3
      obtain ⟨p, hp, rfl⟩ := Option.map_eq_some_iff.1 q3
      exact ⟨.up x, hSx, rfl, .inl rfl, p, by rw [show C.out σ' x = σ'.O x from OB_not hm]; exact hp, q1⟩
  have hβup : ∀ x, (x ∈ C.bor ∨ (C.S0.hid x).isSome = true) → S'.β (.up x) = S.β (.up x) := by
    intro x hm
    obtain ⟨sz, hsz⟩ := Option.isSome_iff_exists.1 (h.hv x hm)
    exact (hx.hid _ sz hsz).2
  have hcon : ∀ b, C.S0.con b → S.con b := by
    intro b hb
    obtain ⟨h1, h2⟩ := h.ext.con b hb
    refine ⟨h1.1, fun ⟨z, hz, hzb⟩ => ?_⟩
    cases z with
    | loc i =>
      have := h.new i (by rw [h.O] at hz; exact hz)
      have := hb.1
      omega
    | bor k =>
      rw [h.O] at hz
      have hz' : ((σ.b[k]?).map Obj.up).isSome = true := hz
      have hk : k < σ.b.length := by
        cases hq : σ.b[k]? with
        | none => rw [hq] at hz'; cases hz'
        | some _ => exact (List.getElem?_eq_some_iff.1 hq).1
      obtain ⟨x, hxk⟩ : ∃ x, C.bor[k]? = some x := ⟨_, List.getElem?_eq_getElem (by rw [← h.bl]; exact hk)⟩
      refine h1.2 ⟨x, ?_, by show S.β (.up x) = b; rw [← h.bb k x hxk]; exact hzb⟩
      show (OB C.bor σ.b σ.O x).isSome = true
      rw [OB_get h.nd h.bl hxk (List.getElem?_eq_getElem hk)]; rfl
    | up x =>
      rw [h.O] at hz
      have hz' : (if x ∈ C.bor then none else (σ.O x).map Obj.up).isSome = true := hz
      split at hz'
      · cases hz'
      · rename_i hm
        refine h1.2 ⟨x, ?_, hzb⟩
        show (OB C.bor σ.b σ.O x).isSome = true
        rw [OB_not hm]
        cases hq : σ.O x with
        | none => rw [hq] at hz'; cases hz'
        | some _ => rfl
  have hbb : ∀ i x, C.bor[i]? = some x → S'.β (.bor i) = S'.β (.up x) := by
    intro i x hi
    have hm : x ∈ C.bor := List.mem_of_getElem? hi
    obtain ⟨p, hp⟩ : ∃ p, σ.b[i]? = some p := ⟨_, List.getElem?_eq_getElem (by rw [h.bl]; exact (List.getElem?_eq_some_iff.1 hi).1)⟩
    have hSb : S.O (.bor i) = some p.up := by rw [h.O]; show (σ.b[i]?).map Obj.up = _; rw [hp]; rfl
    obtain ⟨_, _, _, _, _, q, _⟩ := hx.obj _ _ hSb
    rw [q, hβup x (.inl hm)]
    exact h.bb i x hi
  have hat0 : At C σ' a S'.w S' → At C σ' a S'.w S' := id
  -- what the start of the call asks
  have hlive' : ∀ g, (outer S' (C.out σ') C.S0.hid C.S0.fz).live g → S'.live g := by
    rintro g ⟨x, hxs, rfl⟩
    by_cases hm : x ∈ C.bor
    · obtain ⟨k, hk⟩ := List.mem_iff_getElem?.1 hm
      obtain ⟨o, ho⟩ : ∃ o, σ'.b[k]? = some o := ⟨_, List.getElem?_eq_getElem (by rw [hbl, h.bl]; exact (List.getElem?_eq_some_iff.1 hk).1)⟩
      exact ⟨.bor k, by rw [hO]; show ((σ'.b[k]?).map Obj.up).isSome = true; rw [ho]; rfl, hbb k x hk⟩
    · refine ⟨.up x, ?_, rfl⟩
      have hx' : (OB C.bor σ'.b σ'.O x).isSome = true := hxs
      rw [OB_not hm] at hx'
      rw [hO]
      show (if x ∈ C.bor then none else (σ'.O x).map Obj.up).isSome = true
      rw [if_neg hm]
      cases hq : σ'.O x with
      | none => rw [hq] at hx'; cases hx'
      | some _ => rfl
  have hext : Ext C.S0 (outer S' (C.out σ') C.S0.hid C.S0.fz) := by
    refine ⟨⟨Nat.le_trans h.ext.size hx.size, hx.os.trans h.ext.os, hx.tape.trans h.ext.tape, hx.output.trans h.ext.output, hx.B0.trans h.ext.B0, Nat.le_trans h.ext.tk hx.tk,
      fun t ht => (hx.tau t (Nat.lt_of_lt_of_le ht h.ext.tk)).trans (h.ext.tau t ht), fun b hb => ?_⟩, fun x o0 h0 => ?_, fun x h0 => ?_, fun x sz h0 => ⟨h0, ?_⟩, rfl, rfl, fun t h1 h2 => ?_⟩
    · obtain ⟨q1, q2⟩ := hx.con b (hcon b hb)
      exact ⟨⟨q1.1, fun hl => q1.2 (hlive' b hl)⟩, q2.trans (h.ext.con b hb).2⟩
    · obtain ⟨o1, r1, r2, r3, r4, r5, r6⟩ := h.ext.obj x o0 h0
      obtain ⟨z, z1, z2, zz, o2, z3, z4⟩ := hout x o1 r1
      obtain ⟨oz, t1, t2, t3, t4, t5, t6⟩ := hx.obj z o1.up z1
      rw [z4] at t1
      cases t1
      have hβz : S'.β (.up x) = S.β (.up x) := by
        by_cases hm : x ∈ C.bor
        · exact hβup x (.inl hm)
        · have hSx : S.O (.up x) = some o1.up := by
            rw [h.O]; show (if x ∈ C.bor then none else (σ.O x).map Obj.up) = _
            rw [if_neg hm, ← show C.out σ x = σ.O x from OB_not hm, show C.out σ x = some o1 from r1]; rfl
          obtain ⟨_, _, _, _, _, q, _⟩ := hx.obj _ _ hSx
          exact q
      refine ⟨o2, z3, t2.trans r2, t3.trans r3, t4.trans r4, by show S'.β (.up x) = _; rw [hβz]; exact r5, fun hb => ?_⟩
      obtain ⟨u1, u2⟩ := r6 hb
      subst u1
      have hb' : o1.up.box = false ∨ S.fz z = true := by
        rcases hb with hb | hb
        · exact .inl hb
        · rcases zz with rfl | hm
          · exact .inr (hT x hb)
          · rw [h.hf x hm] at hb; cases hb
      obtain ⟨u3, u4⟩ := t6 hb'
      refine ⟨obj_up_inj u3, ?_⟩
      have e1 : S.β z = C.S0.β x := by rw [z2]; exact r5
      rw [e1] at u4
      exact u4.trans u2
    · have q := h.ext.non x h0
      have hm : x ∉ C.bor := fun hm => by
        obtain ⟨k, hk⟩ := List.mem_iff_getElem?.1 hm
        obtain ⟨p, hp⟩ : ∃ p, σ.b[k]? = some p := ⟨_, List.getElem?_eq_getElem (by rw [h.bl]; exact (List.getElem?_eq_some_iff.1 hk).1)⟩
        have : C.out σ x = some p := OB_get h.nd h.bl hk hp
        rw [show (outer S (C.out σ) C.S0.hid C.S0.fz).O x = C.out σ x from rfl, this] at q
        cases q
      have hSx : S.O (.up x) = none := by
        rw [h.O]; show (if x ∈ C.bor then none else (σ.O x).map Obj.up) = _
        rw [if_neg hm, ← show C.out σ x = σ.O x from OB_not hm, show C.out σ x = none from q]; rfl
      have := hx.non _ hSx
      rw [hO] at this
      have this' : (if x ∈ C.bor then none else (σ'.O x).map Obj.up) = none := this
      rw [if_neg hm] at this'
      show C.out σ' x = none
      rw [show C.out σ' x = σ'.O x from OB_not hm]
      cases hq : σ'.O x with
      | none => rfl
      | some _ => rw [hq] at this'; cases this'
    · show S'.β (.up x) = C.S0.β x
      rw [hβup x (.inr (by rw [h0]; rfl))]
      exact (h.ext.hid x sz h0).2
    · by_cases hb : t < S.tk
      · show C.S0.w.heap.size ≤ S'.τ t
        rw [hx.tau t hb]; exact h.ext.fresh t h1 hb
      · exact Nat.le_trans h.ext.size (hx.fresh t (by omega) h2)
  refine ⟨rfl, hO, htk, hs, fun i v hv => ?_, h.nt, h.defers, hext, fun i hi => ?_, by rw [hbl, h.bl], h.nd, hbb, h.h0, fun i => by rw [hx.hidE]; exact h.hl i, fun x sz => by rw [hx.hidE]; exact h.hu x sz, fun x hm => by rw [hx.hidE]; exact h.hv x hm, h.hf⟩
  · rw [henv] at hv
    obtain ⟨u, hu, hr⟩ := h.env i v hv
    exact ⟨u, hu, hr.ext hx⟩
  · have hi' : (S'.O (.loc i)).isSome = true := by rw [hO]; exact hi
    cases hq : S.O (.loc i) with
    | none => rw [hx.non _ hq] at hi'; cases hi'
    | some o =>
      obtain ⟨_, _, _, _, _, q, _⟩ := hx.obj _ _ hq
      rw [q]
      exact h.new i (by rw [h.O] at hq; show (look i σ.l).isSome = true; rw [show look i σ.l = some o from hq]; rfl)

/-- What may be handed on. -/
def argok : AV → Bool
  | .int .. => true
  | .bool _ => true
  | .str _ => true
  | .nilp => true
  | .cptr _ => true
  | .imm .. => true
  | .nilfn => true
  | .nilif => true
  | .optr .. => true
  | .fn _ a b => match allc0 a with
    | true => allc0 b
    | false => false
  | .agg cs => cs.all cl
  | _ => false

theorem argok_arg {S : Sit} {v : AV} {u : Value} (h : Rep S v u) (hk : argok v = true) : Arg S v u := by
  cases v with
  | fn f a b =>
    cases ha : allc0 a with
    | true =>
      simp only [argok, ha] at hk
      exact ⟨h, ha, hk⟩
    | false =>
      simp only [argok, ha] at hk
      cases hk
  | agg cs =>
    obtain ⟨us, rfl, hl, hs, hr⟩ := rep_agg h
    exact .agg cs us hl hs fun j x hj => cl_repc (hr j x hj) (List.all_eq_true.1 hk x (List.mem_of_getElem? hj))
  | optr x i off => exact h
  | cptr cs => exact rep_cptr h
  | int k n => exact cl_repc h rfl
  | bool b => exact cl_repc h rfl
  | str s => exact cl_repc h rfl
  | nilp => exact cl_repc h rfl
  | imm a b c d => exact cl_repc h rfl
  | nilfn => exact cl_repc h rfl
  | nilif => exact cl_repc h rfl
  | any => cases hk
  | jnk => cases hk
  | osl x => cases hk
  | iface t v => cases hk
  | tup cs => cases hk

end Go.Am
