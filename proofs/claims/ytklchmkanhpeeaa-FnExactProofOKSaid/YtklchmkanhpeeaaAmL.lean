/- The abstract memory logic, twelfth part: a row of the call's own is frozen, or grows. -/
import Derived.Test.YtklchmkanhpeeaaAmK
namespace Go.Am
open Go

theorem occC_up (k : Nat) : ∀ (l : List AV), occC k (l.map AV.up0) = false
  | [] => rfl
  | v :: l => by
    have ih := occC_up k l
    cases v <;> simp [occC, AV.up0, ih, isLoc]

theorem subC_up (k : Nat) (r : AV) (v : AV) : subC k r v.up = v.up := by
  cases v <;> simp [subC, AV.up, isLoc, occC_up]

def dele (k : Nat) : List (Nat × Obj) → List (Nat × Obj)
  | [] => []
  | (j, o) :: l => match Nat.beq k j with
    | true => dele k l
    | false => (j, o) :: dele k l

theorem look_dele {k : Nat} : ∀ {l : List (Nat × Obj)} (i : Nat), look i (dele k l) = if i = k then none else look i l
  | [], i => by simp [dele, look]
  | (j, o) :: l, i => by
    have ih := look_dele (k := k) (l := l) i
    unfold dele
    cases hk : Nat.beq k j with
    | true =>
      have := Nat.eq_of_beq_eq_true hk
      subst this
      simp only [ih, look]
      by_cases hi : i = k
      · simp [hi]
      · have : Nat.beq i k = false := by rw [← Bool.not_eq_true]; intro hh; exact hi (Nat.eq_of_beq_eq_true hh)
        simp [hi, this]
    | false =>
      simp only [look]
      cases hi : Nat.beq i j with
      | true =>
        have := Nat.eq_of_beq_eq_true hi
        subst this
        have hne : i ≠ k := fun e => by subst e; rw [Nat.beq_refl] at hk; cases hk
        simp [hne]
      | false => simp [ih]

/-- The objects but the row k, behind its going. -/
theorem heap_sub {C : Ctx} {σ : St} {k : Nat} {r : AV} {l' : List (Nat × Obj)} {tk' : Nat} (hl : ∀ i, i ≠ k → look i l' = look i (subO k r σ.l)) {x : ID} (hx : x ≠ .loc k) {o : Obj} :
    (C.heap σ x = some o → ∃ o', C.heap ⟨subE k r σ.env, l', σ.b, σ.O, tk'⟩ x = some o' ∧ o'.ty = o.ty ∧ o'.sz = o.sz ∧ o'.box = o.box ∧ o'.es.length = o.es.length ∧
      (o.box = false → o' = o) ∧ ∀ (i : Nat) (e' : List AV) (j : Nat) (v' : AV), o'.es[i]? = some e' → e'[j]? = some v' → o.box = true → ∃ e v, o.es[i]? = some e ∧ e[j]? = some v ∧ v' = subC k r v) ∧
    (C.heap σ x = none → C.heap ⟨subE k r σ.env, l', σ.b, σ.O, tk'⟩ x = none) := by
  have same : ∀ (H : Heap), C.heap ⟨subE k r σ.env, l', σ.b, σ.O, tk'⟩ x = C.heap σ x → (∀ o, C.heap σ x = some o → ∃ p : Obj, o = p.up) →
      (C.heap σ x = some o → ∃ o', C.heap ⟨subE k r σ.env, l', σ.b, σ.O, tk'⟩ x = some o' ∧ o'.ty = o.ty ∧ o'.sz = o.sz ∧ o'.box = o.box ∧ o'.es.length = o.es.length ∧
      (o.box = false → o' = o) ∧ ∀ (i : Nat) (e' : List AV) (j : Nat) (v' : AV), o'.es[i]? = some e' → e'[j]? = some v' → o.box = true → ∃ e v, o.es[i]? = some e ∧ e[j]? = some v ∧ v' = subC k r v) ∧
      (C.heap σ x = none → C.heap ⟨subE k r σ.env, l', σ.b, σ.O, tk'⟩ x = none) := by
    intro H he hp
    refine ⟨fun h => ⟨o, by rw [he]; exact h, rfl, rfl, rfl, rfl, fun _ => rfl, fun i e' j v' hi hj _ => ⟨e', v', hi, hj, ?_⟩⟩, fun h => by rw [he]; exact h⟩
    obtain ⟨p, rfl⟩ := hp o h
    simp only [Obj.up, List.getElem?_map] at hi
    obtain ⟨e, _, rfl⟩ := Option.map_eq_some_iff.1 hi
    rw [List.getElem?_map] at hj
    obtain ⟨v, _, rfl⟩ := Option.map_eq_some_iff.1 hj
    exact (subC_up k r v).symm
  cases x with
  | loc i =>
    have hik : i ≠ k := fun e => hx (by rw [e])
    show (look i σ.l = some o → ∃ o', look i l' = some o' ∧ _) ∧ (look i σ.l = none → look i l' = none)
    rw [hl i hik, look_subO]
    refine ⟨fun h => ?_, fun h => by rw [h]; rfl⟩
    rw [h]
    refine ⟨o.sub k r, rfl, ?_, ?_, ?_, ?_, ?_, ?_⟩
    · unfold Obj.sub; split <;> rfl
    · unfold Obj.sub; split <;> rfl
    · unfold Obj.sub; split <;> rfl
    · unfold Obj.sub; split <;> simp
    · intro hb; simp [Obj.sub, hb]
    · intro i e' j v' hi hj hb
      simp only [Obj.sub, hb, if_true, List.getElem?_map] at hi
      obtain ⟨e, he, rfl⟩ := Option.map_eq_some_iff.1 hi
      rw [subL_get] at hj
      obtain ⟨v, hv, rfl⟩ := Option.map_eq_some_iff.1 hj
      exact ⟨e, v, he, hv, rfl⟩
  | bor i => exact same (C.heap σ) rfl (fun o h => let ⟨p, _, hp⟩ := Option.map_eq_some_iff.1 h; ⟨p, hp.symm⟩)
  | up z =>
    refine same (C.heap σ) rfl fun o h => ?_
    have h' : (if z ∈ C.bor then none else (σ.O z).map Obj.up) = some o := h
    split at h'
    · cases h'
    · obtain ⟨p, _, hp⟩ := Option.map_eq_some_iff.1 h'
      exact ⟨p, hp.symm⟩

/-- The row k is no object any more: it reads as 'imm tk'. -/
theorem At.freeze {C : Ctx} {σ : St} {a : Act} {w : World} {S : Sit} (h : At C σ a w S) {k : Nat} {o : Obj} (hk : look k σ.l = some o) (hb : o.box = false) :
    ∃ S', At C ⟨subE k (.imm σ.tk o.sz false o.es) σ.env, dele k (subO k (.imm σ.tk o.sz false o.es) σ.l), σ.b, σ.O, σ.tk + 1⟩ a w S' ∧ S'.w = S.w ∧ S'.β = S.β := by
  have hwS := h.w
  subst hwS
  have hSk : S.O (.loc k) = some o := by rw [h.O]; exact hk
  let r : AV := .imm σ.tk o.sz false o.es
  let σ' : St := ⟨subE k r σ.env, dele k (subO k r σ.l), σ.b, σ.O, σ.tk + 1⟩
  let S' : Sit := { S with O := C.heap σ', τ := fun t => if t = σ.tk then S.β (.loc k) else S.τ t, tk := σ.tk + 1 }
  have hl : ∀ i, i ≠ k → look i (dele k (subO k r σ.l)) = look i (subO k r σ.l) := fun i hi => by rw [look_dele, if_neg hi]
  have hheap := fun (x : ID) (hx : x ≠ .loc k) (o : Obj) => heap_sub (C := C) (σ := σ) (k := k) (r := r) (l' := dele k (subO k r σ.l)) (tk' := σ.tk + 1) hl hx (o := o)
  have hSk' : S'.O (.loc k) = none := by show look k (dele k (subO k r σ.l)) = none; rw [look_dele, if_pos rfl]
  have hlive : ∀ b, S'.live b → S.live b ∧ b ≠ S.β (.loc k) := by
    rintro b ⟨x, hx, rfl⟩
    have hxk : x ≠ .loc k := fun e => by rw [e, hSk'] at hx; cases hx
    have hxs : (S.O x).isSome = true := by
      cases hq : S.O x with
      | none => rw [h.O] at hq; have := (hheap x hxk o).2 hq; rw [show S'.O x = C.heap σ' x from rfl, this] at hx; cases hx
      | some _ => rfl
    exact ⟨⟨x, hxs, rfl⟩, fun e => hxk (h.sim.inj x _ hxs (by rw [hSk]; rfl) e)⟩
  have htk : S.tk = σ.tk := h.tk
  have hle : Le S S' := ⟨Nat.le_refl _, rfl, rfl, rfl, rfl, by show S.tk ≤ σ.tk + 1; omega, fun t ht => by show (if t = σ.tk then _ else _) = _; rw [if_neg (by omega)], fun b hb => ⟨⟨hb.1, fun hl => hb.2 (hlive b hl).1⟩, rfl⟩⟩
  obtain ⟨cur, q1, q2, q3, q4, q5⟩ := h.sim.obj _ _ hSk
  have hrow : ∀ u, Rep S (.osl (.loc k)) u → Rep S' r u := by
    intro u hu
    obtain ⟨o', c, cur', ho', hb', hw, hc, hl', hm, rfl⟩ := rep_osl hu
    rw [hSk] at ho'
    cases ho'
    cases hes : o.es with
    | nil =>
      show Rep S' (.imm σ.tk o.sz false o.es) _
      rw [hes]
      exact .clo (.imm0 _ _ _ _ _ (fun h => by cases h) hm)
    | cons e0 es0 =>
      have hne : o.es ≠ [] := by rw [hes]; exact fun h => by cases h
      rw [← hes]
      refine .clo (.imm σ.tk o.sz false o.es (S.β (.loc k)) 0 c (fun i j => cur.getD (i * o.sz + j) undef) hne ⟨h.sim.lt hSk, fun hl => (hlive _ hl).2 rfl⟩ hl' hm (fun h => by cases h)
        (fun _ => ⟨by show σ.tk < σ.tk + 1; omega, by show (if σ.tk = σ.tk then _ else _) = _; rw [if_pos rfl], rfl⟩) (fun h0 => by have := h.sim.tk2; omega) q4 (fun i e j x hi hj => (q5 i e j x hi hj).1) ?_ ?_)
      · intro i e j x hi hj
        obtain ⟨_, v, hv, _⟩ := q5 i e j x hi hj
        show World.cell? S.w _ = _
        rw [Nat.zero_add]
        have hlt := (Array.getElem?_eq_some_iff.1 hv).1
        simp [World.cell?, q1, Array.getD, hlt]
      · intro i e j x hi hj
        obtain ⟨_, v, hv, _, hr⟩ := q5 i e j x hi hj
        have : cur.getD (i * o.sz + j) undef = v := by simp [hv]
        rw [this]
        exact (hr hb).le hle
  have hgone : Gone S S' k r := ⟨hle, fun x ox hx hxk => by
    rw [h.O] at hx
    obtain ⟨o', r1, r2, r3, r4, r5, _, _⟩ := (hheap x hxk ox).1 hx
    exact ⟨o', r1, r2, r3, r4, rfl, r5, fun c hc => ⟨c, hc, rfl⟩⟩, hrow, fun x z hx => ⟨hx, rfl⟩, rfl⟩
  have hsim : SimH S' := by
    refine ⟨fun x ox hx => ?_, fun x y hx hy hxy => ?_, fun x hx => ?_, fun t h1 h2 => ?_, fun t t' h1 h2 h3 h4 he => ?_, h.sim.b0, fun x z hx => ?_, by show 2 ≤ σ.tk + 1; have := h.sim.tk2; omega⟩
    · have hxk : x ≠ .loc k := fun e => by rw [e, hSk'] at hx; cases hx
      have hxs : ∃ oo, S.O x = some oo := by
        cases hq : S.O x with
        | none => rw [h.O] at hq; have := (hheap x hxk o).2 hq; rw [show S'.O x = C.heap σ' x from rfl, this] at hx; cases hx
        | some oo => exact ⟨oo, rfl⟩
      obtain ⟨oo, hoo⟩ := hxs
      obtain ⟨o', r1, r2, r3, r4, r5, r6, r7⟩ := (hheap x hxk oo).1 (by rw [← h.O]; exact hoo)
      rw [show S'.O x = C.heap σ' x from rfl, r1] at hx
      cases hx
      obtain ⟨c, p1, p2, p3, p4, p5⟩ := h.sim.obj x oo hoo
      refine ⟨c, by rw [r2]; exact p1, by rw [r3, r5]; exact p2, fun hbx => by rw [r5, r3]; exact p3 (by rw [← r4]; exact hbx), ?_, fun i e j v hi hj => ?_⟩
      · intro e he
        rw [r3]
        cases hbx : oo.box with
        | false => rw [r6 hbx] at he; exact p4 e he
        | true =>
          obtain ⟨i, hi⟩ := List.mem_iff_getElem?.1 he
          -- its length is its elder's
          obtain ⟨e0, he0⟩ : ∃ e0, oo.es[i]? = some e0 := ⟨_, List.getElem?_eq_getElem (by rw [← r5]; exact (List.getElem?_eq_some_iff.1 hi).1)⟩
          have hlen := p4 e0 (List.mem_of_getElem? he0)
          -- by the form of the substitution
          cases x with
          | loc n =>
            have hnk : n ≠ k := fun e => hxk (by rw [e])
            have hoo' : look n σ.l = some oo := by rw [h.O] at hoo; exact hoo
            have : look n (dele k (subO k r σ.l)) = some ox := r1
            rw [hl n hnk, look_subO, hoo'] at this
            cases this
            simp only [Obj.sub, hbx, if_true, List.getElem?_map, he0, Option.map_some, Option.some.injEq] at hi
            rw [← hi, subL_length]; exact hlen
          | bor n =>
            have hoo' : C.heap σ (.bor n) = some oo := by rw [← h.O]; exact hoo
            have : C.heap σ (.bor n) = some ox := r1
            rw [hoo'] at this; cases this
            exact p4 e he
          | up n =>
            have hoo' : C.heap σ (.up n) = some oo := by rw [← h.O]; exact hoo
            have : C.heap σ (.up n) = some ox := r1
            rw [hoo'] at this; cases this
            exact p4 e he
      · rw [r3]
        cases hbx : oo.box with
        | false =>
          have := r6 hbx
          subst this
          obtain ⟨s1, u, s2, s3, s4⟩ := p5 i e j v hi hj
          exact ⟨s1, u, s2, .clo ((s4 hbx).le hle), fun _ => (s4 hbx).le hle⟩
        | true =>
          obtain ⟨e0, v0, t1, t2, rfl⟩ := r7 i e j v hi hj hbx
          obtain ⟨s1, u, s2, s3, s4⟩ := p5 i e0 j v0 t1 t2
          have := cell_gone hgone s3 s1
          exact ⟨this.2, u, s2, this.1, fun hf => by rw [r4, hbx] at hf; cases hf⟩
    · obtain ⟨h1, _⟩ := hlive _ ⟨x, hx, rfl⟩
      have f : ∀ x, (S'.O x).isSome = true → (S.O x).isSome = true := fun x hx => by
        have hxk : x ≠ .loc k := fun e => by rw [e, hSk'] at hx; cases hx
        cases hq : S.O x with
        | none => rw [h.O] at hq; have := (hheap x hxk o).2 hq; rw [show S'.O x = C.heap σ' x from rfl, this] at hx; cases hx
        | some _ => rfl
      exact h.sim.inj x y (f x hx) (f y hy) hxy
    · have hxk : x ≠ .loc k := fun e => by rw [e, hSk'] at hx; cases hx
      refine h.sim.base x ?_
      cases hq : S.O x with
      | none => rw [h.O] at hq; have := (hheap x hxk o).2 hq; rw [show S'.O x = C.heap σ' x from rfl, this] at hx; cases hx
      | some _ => rfl
    · show (if t = σ.tk then _ else _) < _ ∧ ¬ S'.live (if t = σ.tk then _ else _) ∧ _ ≤ (if t = σ.tk then _ else _)
      by_cases ht : t = σ.tk
      · rw [if_pos ht]
        exact ⟨h.sim.lt hSk, fun hl => (hlive _ hl).2 rfl, h.sim.base _ (by rw [hSk]; rfl)⟩
      · rw [if_neg ht]
        have h2' : t < σ.tk + 1 := h2
        obtain ⟨s1, s2, s3⟩ := h.sim.tok t h1 (by omega)
        exact ⟨s1, fun hl => s2 (hlive _ hl).1, s3⟩
    · have h2' : t < σ.tk + 1 := h2
      have h4' : t' < σ.tk + 1 := h4
      have he' : (if t = σ.tk then S.β (.loc k) else S.τ t) = (if t' = σ.tk then S.β (.loc k) else S.τ t') := he
      by_cases ht : t = σ.tk <;> by_cases ht' : t' = σ.tk
      · omega
      · rw [if_pos ht, if_neg ht'] at he'
        exact absurd ⟨_, by rw [hSk]; rfl, he'⟩ (h.sim.tok t' h3 (by omega)).2.1
      · rw [if_neg ht, if_pos ht'] at he'
        exact absurd ⟨_, by rw [hSk]; rfl, he'.symm⟩ (h.sim.tok t h1 (by omega)).2.1
      · rw [if_neg ht, if_neg ht'] at he'
        exact h.sim.tinj t t' h1 (by omega) h3 (by omega) he'
    · have hx' := h.sim.hid x z hx
      rw [h.O] at hx'
      exact (hheap x (fun e => by subst e; rw [show S'.hid = S.hid from rfl, h.hl k] at hx; cases hx) o).2 hx'
  refine ⟨S', ⟨rfl, rfl, rfl, hsim, fun i v hv => ?_, h.nt, h.defers, ?_, fun i hi => ?_, h.bl, h.nd, h.bb, h.h0, h.hl, h.hu, h.hv, h.hf⟩, rfl, rfl⟩
  · rw [look_subE] at hv
    obtain ⟨v0, hv0, rfl⟩ := Option.map_eq_some_iff.1 hv
    obtain ⟨u, hu, hr⟩ := h.env i v0 hv0
    exact ⟨u, hu, hr.gone hgone⟩
  · exact h.ext.own rfl rfl rfl rfl (by show S.tk ≤ σ.tk + 1; omega) (fun t ht => by show (if t = σ.tk then _ else _) = _; rw [if_neg (by have : t < S.tk := ht; omega)]; rfl) rfl rfl rfl (Nat.le_refl _) (fun x o hx => h.h0.lt hx) (fun _ _ => rfl) (fun t h1 h2 => by have h1' : S.tk ≤ t := h1; have h2' : t < σ.tk + 1 := h2; show C.S0.w.heap.size ≤ (if t = σ.tk then S.β (.loc k) else S.τ t); rw [if_pos (by omega)]; exact h.new k (by rw [hk]; rfl))
  · show C.S0.w.heap.size ≤ S.β (.loc i)
    have hik : i ≠ k := fun e => by subst e; rw [look_dele, if_pos rfl] at hi; cases hi
    refine h.new i ?_
    rw [hl i hik, look_subO] at hi
    cases hq : look i σ.l with
    | none => rw [hq] at hi; cases hi
    | some _ => rfl

/-- The object k is forgotten. -/
theorem At.drop {C : Ctx} {σ : St} {a : Act} {w : World} {S : Sit} (h : At C σ a w S) {k : Nat} {o : Obj} (hk : look k σ.l = some o) :
    ∃ S', At C ⟨subE k .jnk σ.env, dele k (subO k .jnk σ.l), σ.b, σ.O, σ.tk⟩ a w S' ∧ S'.w = S.w ∧ S'.β = S.β := by
  have hwS := h.w
  subst hwS
  have hSk : S.O (.loc k) = some o := by rw [h.O]; exact hk
  let r : AV := .jnk
  let σ' : St := ⟨subE k r σ.env, dele k (subO k r σ.l), σ.b, σ.O, σ.tk⟩
  let S' : Sit := { S with O := C.heap σ' }
  have hl : ∀ i, i ≠ k → look i (dele k (subO k r σ.l)) = look i (subO k r σ.l) := fun i hi => by rw [look_dele, if_neg hi]
  have hheap := fun (x : ID) (hx : x ≠ .loc k) (o : Obj) => heap_sub (C := C) (σ := σ) (k := k) (r := r) (l' := dele k (subO k r σ.l)) (tk' := σ.tk) hl hx (o := o)
  have hSk' : S'.O (.loc k) = none := by show look k (dele k (subO k r σ.l)) = none; rw [look_dele, if_pos rfl]
  have hlive : ∀ b, S'.live b → S.live b ∧ b ≠ S.β (.loc k) := by
    rintro b ⟨x, hx, rfl⟩
    have hxk : x ≠ .loc k := fun e => by rw [e, hSk'] at hx; cases hx
    have hxs : (S.O x).isSome = true := by
      cases hq : S.O x with
      | none => rw [h.O] at hq; have := (hheap x hxk o).2 hq; rw [show S'.O x = C.heap σ' x from rfl, this] at hx; cases hx
      | some _ => rfl
    exact ⟨⟨x, hxs, rfl⟩, fun e => hxk (h.sim.inj x _ hxs (by rw [hSk]; rfl) e)⟩
  have htk : S.tk = σ.tk := h.tk
  have hle : Le S S' := ⟨Nat.le_refl _, rfl, rfl, rfl, rfl, Nat.le_refl _, fun _ _ => rfl, fun b hb => ⟨⟨hb.1, fun hl => hb.2 (hlive b hl).1⟩, rfl⟩⟩
  have hrow : ∀ u, Rep S (.osl (.loc k)) u → Rep S' r u := by
    intro u hu
    obtain ⟨_, _, _, _, _, _, _, _, _, rfl⟩ := rep_osl hu
    exact .jnk _ rfl
  have hgone : Gone S S' k r := ⟨hle, fun x ox hx hxk => by
    rw [h.O] at hx
    obtain ⟨o', r1, r2, r3, r4, r5, _, _⟩ := (hheap x hxk ox).1 hx
    exact ⟨o', r1, r2, r3, r4, rfl, r5, fun c hc => ⟨c, hc, rfl⟩⟩, hrow, fun x z hx => ⟨hx, rfl⟩, rfl⟩
  have hsim : SimH S' := by
    refine ⟨fun x ox hx => ?_, fun x y hx hy hxy => ?_, fun x hx => ?_, fun t h1 h2 => ?_, h.sim.tinj, h.sim.b0, fun x z hx => ?_, h.sim.tk2⟩
    · have hxk : x ≠ .loc k := fun e => by rw [e, hSk'] at hx; cases hx
      have hxs : ∃ oo, S.O x = some oo := by
        cases hq : S.O x with
        | none => rw [h.O] at hq; have := (hheap x hxk o).2 hq; rw [show S'.O x = C.heap σ' x from rfl, this] at hx; cases hx
        | some oo => exact ⟨oo, rfl⟩
      obtain ⟨oo, hoo⟩ := hxs
      obtain ⟨o', r1, r2, r3, r4, r5, r6, r7⟩ := (hheap x hxk oo).1 (by rw [← h.O]; exact hoo)
      rw [show S'.O x = C.heap σ' x from rfl, r1] at hx
      cases hx
      obtain ⟨c, p1, p2, p3, p4, p5⟩ := h.sim.obj x oo hoo
      refine ⟨c, by rw [r2]; exact p1, by rw [r3, r5]; exact p2, fun hbx => by rw [r5, r3]; exact p3 (by rw [← r4]; exact hbx), ?_, fun i e j v hi hj => ?_⟩
      · intro e he
        rw [r3]
        cases hbx : oo.box with
        | false => rw [r6 hbx] at he; exact p4 e he
        | true =>
          obtain ⟨i, hi⟩ := List.mem_iff_getElem?.1 he
          -- its length is its elder's
          obtain ⟨e0, he0⟩ : ∃ e0, oo.es[i]? = some e0 := ⟨_, List.getElem?_eq_getElem (by rw [← r5]; exact (List.getElem?_eq_some_iff.1 hi).1)⟩
          have hlen := p4 e0 (List.mem_of_getElem? he0)
          -- by the form of the substitution
          cases x with
          | loc n =>
            have hnk : n ≠ k := fun e => hxk (by rw [e])
            have hoo' : look n σ.l = some oo := by rw [h.O] at hoo; exact hoo
            have : look n (dele k (subO k r σ.l)) = some ox := r1
            rw [hl n hnk, look_subO, hoo'] at this
            cases this
            simp only [Obj.sub, hbx, if_true, List.getElem?_map, he0, Option.map_some, Option.some.injEq] at hi
            rw [← hi, subL_length]; exact hlen
          | bor n =>
            have hoo' : C.heap σ (.bor n) = some oo := by rw [← h.O]; exact hoo
            have : C.heap σ (.bor n) = some ox := r1
            rw [hoo'] at this; cases this
            exact p4 e he
          | up n =>
            have hoo' : C.heap σ (.up n) = some oo := by rw [← h.O]; exact hoo
            have : C.heap σ (.up n) = some ox := r1
            rw [hoo'] at this; cases this
            exact p4 e he
      · rw [r3]
        cases hbx : oo.box with
        | false =>
          have := r6 hbx
          subst this
          obtain ⟨s1, u, s2, s3, s4⟩ := p5 i e j v hi hj
          exact ⟨s1, u, s2, .clo ((s4 hbx).le hle), fun _ => (s4 hbx).le hle⟩
        | true =>
          obtain ⟨e0, v0, t1, t2, rfl⟩ := r7 i e j v hi hj hbx
          obtain ⟨s1, u, s2, s3, s4⟩ := p5 i e0 j v0 t1 t2
          have := cell_gone hgone s3 s1
          exact ⟨this.2, u, s2, this.1, fun hf => by rw [r4, hbx] at hf; cases hf⟩
    · obtain ⟨h1, _⟩ := hlive _ ⟨x, hx, rfl⟩
      have f : ∀ x, (S'.O x).isSome = true → (S.O x).isSome = true := fun x hx => by
        have hxk : x ≠ .loc k := fun e => by rw [e, hSk'] at hx; cases hx
        cases hq : S.O x with
        | none => rw [h.O] at hq; have := (hheap x hxk o).2 hq; rw [show S'.O x = C.heap σ' x from rfl, this] at hx; cases hx
        | some _ => rfl
      exact h.sim.inj x y (f x hx) (f y hy) hxy
    · have hxk : x ≠ .loc k := fun e => by rw [e, hSk'] at hx; cases hx
      refine h.sim.base x ?_
      cases hq : S.O x with
      | none => rw [h.O] at hq; have := (hheap x hxk o).2 hq; rw [show S'.O x = C.heap σ' x from rfl, this] at hx; cases hx
      | some _ => rfl
    · obtain ⟨s1, s2, s3⟩ := h.sim.tok t h1 (by have := h.tk; show t < S.tk; exact h2)
      exact ⟨s1, fun hl => s2 (hlive _ hl).1, s3⟩
    · have hx' := h.sim.hid x z hx
      rw [h.O] at hx'
      exact (hheap x (fun e => by subst e; rw [show S'.hid = S.hid from rfl, h.hl k] at hx; cases hx) o).2 hx'
  refine ⟨S', ⟨rfl, rfl, h.tk, hsim, fun i v hv => ?_, h.nt, h.defers, ?_, fun i hi => ?_, h.bl, h.nd, h.bb, h.h0, h.hl, h.hu, h.hv, h.hf⟩, rfl, rfl⟩
  · rw [look_subE] at hv
    obtain ⟨v0, hv0, rfl⟩ := Option.map_eq_some_iff.1 hv
    obtain ⟨u, hu, hr⟩ := h.env i v0 hv0
    exact ⟨u, hu, hr.gone hgone⟩
  · exact h.ext.own rfl rfl rfl rfl (Nat.le_refl _) (fun _ _ => rfl) rfl rfl rfl (Nat.le_refl _) (fun x o hx => h.h0.lt hx) (fun _ _ => rfl) (fun t h1 h2 => absurd h1 (Nat.not_le_of_lt h2))
  · show C.S0.w.heap.size ≤ S.β (.loc i)
    have hik : i ≠ k := fun e => by subst e; rw [look_dele, if_pos rfl] at hi; cases hi
    refine h.new i ?_
    rw [hl i hik, look_subO] at hi
    cases hq : look i σ.l with
    | none => rw [hq] at hi; cases hi
    | some _ => rfl

end Go.Am
