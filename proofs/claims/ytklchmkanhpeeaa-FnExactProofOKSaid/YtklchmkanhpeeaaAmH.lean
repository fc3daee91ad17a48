/- The abstract memory logic, eighth part: writing into an object. -/
import Derived.Test.YtklchmkanhpeeaaAmG
namespace Go.Am
open Go

/-- An object whose cells turn, its shape kept. -/
theorem Sit.set {S : Sit} (sim : SimH S) {x : ID} {o : Obj} (hx : S.O x = some o) (o' : Obj) (ht : o'.ty = o.ty) (hz : o'.sz = o.sz) (hb : o'.box = o.box) (hl : o'.es.length = o.es.length)
    (cur cur' : Array Value) (hcur : S.w.heap[S.β x]? = some (.cells cur o.ty (0, 0))) (hs : cur'.size = cur.size) (hes : ∀ e ∈ o'.es, e.length = o'.sz)
    (hc : ∀ (i : Nat) (e : List AV) (j : Nat) (v : AV), o'.es[i]? = some e → e[j]? = some v → v.d1 = true ∧ ∃ u, cur'[i * o'.sz + j]? = some u ∧ Rep S v u ∧ (o'.box = false → RepC S v u))
    (S' : Sit) (hS' : S' = { S with w := S.w.setRow (S.β x) cur', O := fun z => if z = x then some o' else S.O z }) :
    SimH S' ∧ Mov S S' (fun _ => False) ∧ S'.w.heap[S.β x]? = some (.cells cur' o.ty (0, 0)) := by
  subst hS'
  have hnew : (S.w.setRow (S.β x) cur').heap[S.β x]? = some (.cells cur' o.ty (0, 0)) := setRow_heap S.w _ cur cur' _ _ hcur
  have hold : ∀ b, b ≠ S.β x → (S.w.setRow (S.β x) cur').heap[b]? = S.w.heap[b]? := fun b hb => setRow_other S.w _ b cur' hb
  have hlive : ∀ b, Sit.live { S with w := S.w.setRow (S.β x) cur', O := fun z => if z = x then some o' else S.O z } b ↔ S.live b := by
    intro b
    constructor
    · rintro ⟨y, hy, rfl⟩
      by_cases hyx : y = x
      · subst hyx; exact ⟨y, by rw [hx]; rfl, rfl⟩
      · exact ⟨y, by simpa only [if_neg hyx] using hy, rfl⟩
    · rintro ⟨y, hy, rfl⟩
      by_cases hyx : y = x
      · subst hyx; exact ⟨y, by simp, rfl⟩
      · exact ⟨y, by simpa only [if_neg hyx] using hy, rfl⟩
  have hxl : S.live (S.β x) := ⟨x, by rw [hx]; rfl, rfl⟩
  have hle : Le S { S with w := S.w.setRow (S.β x) cur', O := fun z => if z = x then some o' else S.O z } :=
    ⟨by simp, rfl, rfl, rfl, rfl, Nat.le_refl _, fun _ _ => rfl, fun b hb => ⟨⟨by simpa using hb.1, fun h => hb.2 ((hlive b).1 h)⟩, hold b fun e => hb.2 (e ▸ hxl)⟩⟩
  have hmov : Mov S { S with w := S.w.setRow (S.β x) cur', O := fun z => if z = x then some o' else S.O z } (fun _ => False) := by
    refine ⟨hle, fun y oy hy _ => ?_, fun y z hy => ⟨hy, rfl⟩⟩
    by_cases hyx : y = x
    · subst hyx
      rw [hx] at hy
      cases hy
      refine ⟨o', by simp, ht, hz, hb, rfl, hl, fun c hcc => ⟨cur', hnew, ?_⟩⟩
      rw [hcur] at hcc; cases hcc; exact hs
    · refine ⟨oy, by simpa only [if_neg hyx] using hy, rfl, rfl, rfl, rfl, rfl, fun c hcc => ⟨c, ?_, rfl⟩⟩
      show (S.w.setRow (S.β x) cur').heap[S.β y]? = _
      rw [hold _ fun e => hyx (sim.inj y x (by rw [hy]; rfl) (by rw [hx]; rfl) e)]
      exact hcc
  refine ⟨⟨fun y oy hy => ?_, fun y z hy hz' hyz => ?_, fun y hy => ?_, fun t h1 h2 => ?_, sim.tinj, by simpa using sim.b0, fun y z hy => by
    have hyx : y ≠ x := fun e => by rw [e] at hy; rw [sim.hid x z hy] at hx; cases hx
    show (if y = x then some o' else S.O y) = none
    rw [if_neg hyx]; exact sim.hid y z hy, sim.tk2⟩, hmov, hnew⟩
  · by_cases hyx : y = x
    · subst hyx
      simp only [if_true] at hy
      cases hy
      obtain ⟨c, q1, q2, q3, q4, q5⟩ := sim.obj y o hx
      rw [hcur] at q1
      cases q1
      refine ⟨cur', by rw [ht]; exact hnew, by rw [hl, hz, hs]; exact q2, fun h => ?_, hes, fun i e j v hi hj => let ⟨r1, u, r2, r3, r4⟩ := hc i e j v hi hj; ⟨r1, u, r2, r3.mov0 hmov, fun h => (r4 h).le hle⟩⟩
      have := q3 (by rw [← hb]; exact h)
      exact ⟨by rw [hl]; exact this.1, by rw [hs, hz]; exact this.2⟩
    · have hy' : S.O y = some oy := by simpa only [if_neg hyx] using hy
      obtain ⟨c, q1, q2, q3, q4, q5⟩ := sim.obj y oy hy'
      refine ⟨c, ?_, q2, q3, q4, fun i e j v hi hj => let ⟨r1, u, r2, r3, r4⟩ := q5 i e j v hi hj; ⟨r1, u, r2, r3.mov0 hmov, fun h => (r4 h).le hle⟩⟩
      show (S.w.setRow (S.β x) cur').heap[S.β y]? = _
      rw [hold _ fun e => hyx (sim.inj y x (by rw [hy']; rfl) (by rw [hx]; rfl) e)]
      exact q1
  · have f : ∀ y, ((fun z => if z = x then some o' else S.O z) y).isSome = true → (S.O y).isSome = true := fun y hy => by
      by_cases hyx : y = x
      · subst hyx; rw [hx]; rfl
      · simpa only [if_neg hyx] using hy
    exact sim.inj y z (f y hy) (f z hz') hyz
  · by_cases hyx : y = x
    · subst hyx; exact sim.base y (by rw [hx]; rfl)
    · exact sim.base y (by simpa only [if_neg hyx] using hy)
  · obtain ⟨q1, q2, q3⟩ := sim.tok t h1 h2
    exact ⟨by simpa using q1, fun h => q2 ((hlive _).1 h), q3⟩

def setl (k : Nat) (o : Obj) : List (Nat × Obj) → List (Nat × Obj)
  | [] => []
  | (j, p) :: r => match Nat.beq k j with
    | true => (j, o) :: r
    | false => (j, p) :: setl k o r

theorem look_setl {k : Nat} {o : Obj} : ∀ {l : List (Nat × Obj)}, (look k l).isSome = true → ∀ i, look i (setl k o l) = if i = k then some o else look i l
  | [], h, i => by simp [look] at h
  | (j, p) :: r, h, i => by
    unfold setl
    cases hk : Nat.beq k j with
    | true =>
      have := Nat.eq_of_beq_eq_true hk
      subst this
      simp only [look]
      by_cases hi : i = k
      · subst hi; simp
      · have : Nat.beq i k = false := by rw [← Bool.not_eq_true]; intro hh; exact hi (Nat.eq_of_beq_eq_true hh)
        simp [this, hi]
    | false =>
      simp only [look, hk] at h ⊢
      cases hi : Nat.beq i j with
      | true =>
        have := Nat.eq_of_beq_eq_true hi
        subst this
        have hne : i ≠ k := fun e => by subst e; rw [Nat.beq_refl] at hk; cases hk
        simp [hne]
      | false => exact look_setl h i

theorem At.setLoc {C : Ctx} {σ : St} {a : Act} {w : World} {S : Sit} (h : At C σ a w S) {k : Nat} {o : Obj} (hk : look k σ.l = some o) (o' : Obj) (ht : o'.ty = o.ty) (hz : o'.sz = o.sz) (hb : o'.box = o.box) (hl : o'.es.length = o.es.length)
    (cur cur' : Array Value) (hcur : w.heap[S.β (.loc k)]? = some (.cells cur o.ty (0, 0))) (hs : cur'.size = cur.size) (hes : ∀ e ∈ o'.es, e.length = o'.sz)
    (hc : ∀ (i : Nat) (e : List AV) (j : Nat) (v : AV), o'.es[i]? = some e → e[j]? = some v → v.d1 = true ∧ ∃ u, cur'[i * o'.sz + j]? = some u ∧ Rep S v u ∧ (o'.box = false → RepC S v u)) :
    ∃ S', At C ⟨σ.env, setl k o' σ.l, σ.b, σ.O, σ.tk⟩ a (w.setRow (S.β (.loc k)) cur') S' ∧ Mov S S' (fun _ => False) := by
  have hwS := h.w
  subst hwS
  have hx : S.O (.loc k) = some o := by rw [h.O]; exact hk
  obtain ⟨hsim, hmov, hnew⟩ := Sit.set h.sim hx o' ht hz hb hl cur cur' hcur hs hes hc _ rfl
  have hOeq : (fun z => if z = ID.loc k then some o' else S.O z) = C.heap ⟨σ.env, setl k o' σ.l, σ.b, σ.O, σ.tk⟩ := by
    funext z
    rw [h.O]
    cases z with
    | loc i =>
      show _ = look i (setl k o' σ.l)
      rw [look_setl (by rw [hk]; rfl) i]
      by_cases hi : i = k
      · subst hi; simp
      · rw [if_neg hi, if_neg (fun e => hi (by cases e; rfl))]; rfl
    | bor i => rw [if_neg (fun e => by cases e)]; rfl
    | up z => rw [if_neg (fun e => by cases e)]; rfl
  refine ⟨{ S with w := S.w.setRow (S.β (.loc k)) cur', O := fun z => if z = .loc k then some o' else S.O z }, ⟨rfl, hOeq, h.tk, hsim, fun i v hv => ?_, h.nt, h.defers, ?_, fun i hi => h.new i ?_, h.bl, h.nd, h.bb, h.h0, h.hl, h.hu, h.hv, h.hf⟩, hmov⟩
  · obtain ⟨u, hu, hr⟩ := h.env i v hv
    exact ⟨u, hu, hr.mov0 hmov⟩
  · refine h.ext.own rfl rfl rfl rfl (Nat.le_refl _) (fun _ _ => rfl) rfl rfl rfl hmov.size (fun x o hx => h.h0.lt hx) (fun b hb => ?_) (fun t h1 h2 => absurd h1 (Nat.not_le_of_lt h2))
    exact setRow_other S.w _ b cur' fun e => by have := h.new k (by rw [hk]; rfl); omega
  · by_cases hik : i = k
    · subst hik; rw [hk]; rfl
    · rw [look_setl (by rw [hk]; rfl) i, if_neg hik] at hi; exact hi

/-- Closed values, by their look. -/
def cl : AV → Bool
  | .int .. => true
  | .bool _ => true
  | .str _ => true
  | .nilp => true
  | .imm .. => true
  | .nilfn => true
  | .nilif => true
  | .fn _ [] [] => true
  | _ => false

theorem cl_fn {f : Fn} {a b : List AV} (h : cl (.fn f a b) = true) : a = [] ∧ b = [] := by
  cases a with
  | nil => cases b with
    | nil => exact ⟨rfl, rfl⟩
    | cons => cases h
  | cons => cases h

theorem cl_repc {S : Sit} {v : AV} {u : Value} (h : Rep S v u) (hv : cl v = true) : RepC S v u := by
  cases h with
  | any => cases hv
  | jnk => cases hv
  | clo h => exact h
  | optr => cases hv
  | hidp => cases hv
  | osl => cases hv
  | fn f a b us1 us2 l1 l2 h1 h2 =>
    obtain ⟨rfl, rfl⟩ := cl_fn hv
    exact .fn f [] [] us1 us2 l1 l2 (fun j x hx => by simp at hx) (fun j x hx => by simp at hx)
  | agg => cases hv
  | tup => cases hv

theorem cl_up {v : AV} (hv : cl v = true) : v.up = v := by
  cases v with
  | fn f a b => obtain ⟨rfl, rfl⟩ := cl_fn hv; rfl
  | _ => first | rfl | cases hv

theorem OB_get {bor : List ID} : ∀ {b : List Obj} {O : Heap} {k : Nat} {x : ID} {o : Obj}, bor.Nodup → b.length = bor.length → bor[k]? = some x → b[k]? = some o → OB bor b O x = some o := by
  induction bor with
  | nil => intro b O k x o _ _ h _; simp at h
  | cons y ys ih =>
    intro b O k x o hn hl hx ho
    cases b with
    | nil => simp at ho
    | cons p ps =>
      cases k with
      | zero =>
        simp at hx ho; subst hx; subst ho
        simp [OB, upd]
      | succ k =>
        simp only [List.getElem?_cons_succ] at hx ho
        rw [List.nodup_cons] at hn
        have hxy : x ≠ y := fun e => hn.1 (by rw [← e]; exact List.mem_of_getElem? hx)
        simp only [OB, upd, if_neg hxy]
        exact ih hn.2 (by simpa using hl) hx ho

theorem OB_not {bor : List ID} : ∀ {b : List Obj} {O : Heap} {x : ID}, x ∉ bor → OB bor b O x = O x := by
  induction bor with
  | nil => intro b O x _; cases b <;> rfl
  | cons y ys ih =>
    intro b O x hx
    simp only [List.mem_cons, not_or] at hx
    cases b with
    | nil => rfl
    | cons p ps => simp only [OB, upd, if_neg hx.1]; exact ih hx.2

/-- Writing through a pointer that came in. -/
theorem At.setBor {C : Ctx} {σ : St} {a : Act} {w : World} {S : Sit} (h : At C σ a w S) {k : Nat} {o : Obj} (hk : σ.b[k]? = some o) (o' : Obj) (ht : o'.ty = o.ty) (hz : o'.sz = o.sz) (hb : o'.box = o.box) (hbx : o.box = true) (hl : o'.es.length = o.es.length)
    (cur cur' : Array Value) (hcur : w.heap[S.β (.bor k)]? = some (.cells cur o.ty (0, 0))) (hs : cur'.size = cur.size) (hes : ∀ e ∈ o'.up.es, e.length = o'.sz)
    (hc : ∀ (i : Nat) (e : List AV) (j : Nat) (v : AV), o'.up.es[i]? = some e → e[j]? = some v → v.d1 = true ∧ ∃ u, cur'[i * o'.sz + j]? = some u ∧ Rep S v u) :
    ∃ S', At C ⟨σ.env, σ.l, σ.b.set k o', σ.O, σ.tk⟩ a (w.setRow (S.β (.bor k)) cur') S' ∧ Mov S S' (fun _ => False) := by
  have hwS := h.w
  subst hwS
  have hlt : k < σ.b.length := (List.getElem?_eq_some_iff.1 hk).1
  have hx : S.O (.bor k) = some o.up := by rw [h.O]; show (σ.b[k]?).map Obj.up = _; rw [hk]; rfl
  have hbf : o'.up.box ≠ false := by show o'.box ≠ false; rw [hb, hbx]; exact fun h => by cases h
  obtain ⟨hsim, hmov, hnew⟩ := Sit.set h.sim hx o'.up ht hz hb (by simpa [Obj.up] using hl) cur cur' hcur hs hes
    (fun i e j v hi hj => let ⟨q1, u, q2, q3⟩ := hc i e j v hi hj; ⟨q1, u, q2, q3, fun hf => absurd hf hbf⟩) _ rfl
  have hOeq : (fun z => if z = ID.bor k then some o'.up else S.O z) = C.heap ⟨σ.env, σ.l, σ.b.set k o', σ.O, σ.tk⟩ := by
    funext z
    rw [h.O]
    cases z with
    | loc i => rw [if_neg (fun e => by cases e)]; rfl
    | bor i =>
      show _ = ((σ.b.set k o')[i]?).map Obj.up
      by_cases hi : i = k
      · subst hi; simp [hlt]
      · rw [if_neg (fun e => hi (by cases e; rfl)), List.getElem?_set_ne (Ne.symm hi)]; rfl
    | up z => rw [if_neg (fun e => by cases e)]; rfl
  obtain ⟨x, hbx'⟩ : ∃ x, C.bor[k]? = some x := ⟨_, List.getElem?_eq_getElem (by rw [← h.bl]; exact hlt)⟩
  refine ⟨{ S with w := S.w.setRow (S.β (.bor k)) cur', O := fun z => if z = .bor k then some o'.up else S.O z }, ⟨rfl, hOeq, h.tk, hsim, fun i v hv => ?_, h.nt, h.defers, ?_, h.new, by simpa using h.bl, h.nd, h.bb, h.h0, h.hl, h.hu, h.hv, h.hf⟩, hmov⟩
  · obtain ⟨u, hu, hr⟩ := h.env i v hv
    exact ⟨u, hu, hr.mov0 hmov⟩
  · -- the caller's objects: one of them has turned
    have hout : C.out σ x = some o := OB_get h.nd h.bl hbx' hk
    have hout' : C.out ⟨σ.env, σ.l, σ.b.set k o', σ.O, σ.tk⟩ x = some o' := OB_get h.nd (by simpa using h.bl) hbx' (by simp [hlt])
    have hoth : ∀ y, y ≠ x → C.out ⟨σ.env, σ.l, σ.b.set k o', σ.O, σ.tk⟩ y = C.out σ y := by
      intro y hy
      by_cases hm : y ∈ C.bor
      · obtain ⟨j, hj⟩ := List.mem_iff_getElem?.1 hm
        have hjk : j ≠ k := fun e => by subst e; rw [hbx'] at hj; cases hj; exact hy rfl
        obtain ⟨p, hp⟩ : ∃ p, σ.b[j]? = some p := ⟨_, List.getElem?_eq_getElem (by rw [h.bl]; exact (List.getElem?_eq_some_iff.1 hj).1)⟩
        rw [show C.out σ y = some p from OB_get h.nd h.bl hj hp]
        exact OB_get h.nd (by simpa using h.bl) hj (by rw [List.getElem?_set_ne (Ne.symm hjk)]; exact hp)
      · rw [show C.out σ y = σ.O y from OB_not hm]; exact OB_not hm
    have hβx : S.β (.up x) = S.β (.bor k) := (h.bb k x hbx').symm
    have hext := h.ext
    have hxb : ∃ o0, C.S0.O x = some o0 := by
      cases h0 : C.S0.O x with
      | none => have := hext.non x h0; rw [show (outer S (C.out σ) C.S0.hid C.S0.fz).O x = C.out σ x from rfl, hout] at this; cases this
      | some o0 => exact ⟨o0, rfl⟩
    obtain ⟨o0, ho0⟩ := hxb
    have hβ0 : S.β (.bor k) = C.S0.β x := by
      obtain ⟨_, _, _, _, _, q, _⟩ := hext.obj x o0 ho0
      rw [← hβx]; exact q
    refine ⟨⟨by have := hext.size; simpa [outer] using this, hext.os, hext.tape, hext.output, hext.B0, hext.tk, hext.tau, fun b hbc => ?_⟩, fun y oy hy => ?_, fun y hy => ?_, fun y z hy => hext.hid y z hy, hext.hidE, hext.fzE, hext.fresh⟩
    · obtain ⟨h1, h2⟩ := hext.con b hbc
      have hne : b ≠ S.β (.bor k) := fun e => hbc.2 ⟨x, by rw [ho0]; rfl, by rw [e, hβ0]⟩
      refine ⟨⟨by simpa [outer] using h1.1, fun ⟨y, hy, hyb⟩ => ?_⟩, ?_⟩
      · by_cases hyx : y = x
        · subst hyx; exact hne (by rw [← hyb]; exact hβx)
        · exact h1.2 ⟨y, by rw [show (outer S (C.out σ) C.S0.hid C.S0.fz).O y = C.out σ y from rfl, ← hoth y hyx]; exact hy, hyb⟩
      · show (S.w.setRow (S.β (.bor k)) cur').heap[b]? = _
        rw [setRow_other S.w _ b cur' hne]; exact h2
    · obtain ⟨oy', r1, r2, r3, r4, r5, r6⟩ := hext.obj y oy hy
      by_cases hyx : y = x
      · subst hyx
        rw [show (outer S (C.out σ) C.S0.hid C.S0.fz).O y = C.out σ y from rfl, hout] at r1
        cases r1
        refine ⟨o', hout', ht.trans r2, hz.trans r3, hb.trans r4, r5, fun hf => ?_⟩
        rcases hf with hf | hf
        · rw [← r4, hbx] at hf; cases hf
        · rw [h.hf y (List.mem_of_getElem? hbx')] at hf; cases hf
      · refine ⟨oy', ?_, r2, r3, r4, r5, fun hf => ⟨(r6 hf).1, ?_⟩⟩
        · show C.out ⟨σ.env, σ.l, σ.b.set k o', σ.O, σ.tk⟩ y = _
          rw [hoth y hyx]; exact r1
        · show (S.w.setRow (S.β (.bor k)) cur').heap[C.S0.β y]? = _
          have hne : C.S0.β y ≠ S.β (.bor k) := fun e => hyx (h.h0.inj y x (by rw [hy]; rfl) (by rw [ho0]; rfl) (by rw [e, hβ0]))
          rw [setRow_other S.w _ _ cur' hne]
          exact (r6 hf).2
    · by_cases hyx : y = x
      · subst hyx; rw [ho0] at hy; cases hy
      · show C.out ⟨σ.env, σ.l, σ.b.set k o', σ.O, σ.tk⟩ y = _
        rw [hoth y hyx]; exact hext.non y hy

end Go.Am
