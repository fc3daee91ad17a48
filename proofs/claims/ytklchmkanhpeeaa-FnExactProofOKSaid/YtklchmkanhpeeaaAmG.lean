/- The abstract memory logic, seventh part: how a state moves when memory is made or written. -/
import Derived.Test.YtklchmkanhpeeaaAmF
import Derived.Laws.AppendOwn
namespace Go.Am
open Go

/-- An object's name occurs in a value. -/
inductive Occ (x : ID) : AV → Prop
  | optr (i off) : Occ x (.optr x i off)
  | osl : Occ x (.osl x)
  | fn1 (f a b) (j : Nat) (v) (h : a[j]? = some v) (k : Occ x v) : Occ x (.fn f a b)
  | fn2 (f a b) (j : Nat) (v) (h : b[j]? = some v) (k : Occ x v) : Occ x (.fn f a b)
  | agg (cs) (j : Nat) (v) (h : cs[j]? = some v) (k : Occ x v) : Occ x (.agg cs)
  | tup (cs) (j : Nat) (v) (h : cs[j]? = some v) (k : Occ x v) : Occ x (.tup cs)

structure Mov (S S' : Sit) (bad : ID → Prop) : Prop extends Le S S' where
  keep : ∀ x o, S.O x = some o → ¬ bad x → ∃ o', S'.O x = some o' ∧ o'.ty = o.ty ∧ o'.sz = o.sz ∧ o'.box = o.box ∧ S'.β x = S.β x ∧ o'.es.length = o.es.length ∧
    ∀ cur : Array Value, S.w.heap[S.β x]? = some (.cells cur o.ty (0, 0)) → ∃ cur' : Array Value, S'.w.heap[S.β x]? = some (.cells cur' o.ty (0, 0)) ∧ cur'.size = cur.size
  hid : ∀ x sz, S.hid x = some sz → S'.hid x = some sz ∧ S'.β x = S.β x

theorem Rep.mov {S S' : Sit} {bad : ID → Prop} (hm : Mov S S' bad) {v : AV} {u : Value} (h : Rep S v u) (hf : ∀ x, bad x → ¬ Occ x v) : Rep S' v u := by
  induction h with
  | any u => exact .any u
  | jnk u h => exact .jnk u h
  | clo h => exact .clo (h.le hm.toLe)
  | optr x i off o ho =>
    obtain ⟨o', h', _, hz, _, hb, _⟩ := hm.keep x o ho (fun hb => hf x hb (.optr _ _))
    rw [← hb, ← hz]
    exact .optr x i off o' h'
  | hidp x i off sz h => rw [← (hm.hid x sz h).2]; exact .hidp x i off sz (hm.hid x sz h).1
  | osl x o c cur ho hb hw hc hl hm' =>
    obtain ⟨o', h', ht, hz, hb', hbe, hl', hcur⟩ := hm.keep x o ho (fun hb => hf x hb .osl)
    obtain ⟨cur', hw', hs'⟩ := hcur cur hw
    rw [← hbe, ← hl']
    exact .osl x o' c cur' h' (hb'.trans hb) (by rw [hbe, ht]; exact hw') (by rw [hs', hz]; exact hc) (by omega) hm'
  | fn f first cap us1 us2 l1 l2 h1 h2 ih1 ih2 =>
    exact .fn f first cap us1 us2 l1 l2 (fun j x hj => ih1 j x hj fun y hy ho => hf y hy (.fn1 _ _ _ j x hj ho)) (fun j x hj => ih2 j x hj fun y hy ho => hf y hy (.fn2 _ _ _ j x hj ho))
  | agg cs us hl hs h ih => exact .agg cs us hl hs fun j x hj => ih j x hj fun y hy ho => hf y hy (.agg _ j x hj ho)
  | tup cs us hl h ih => exact .tup cs us hl fun j x hj => ih j x hj fun y hy ho => hf y hy (.tup _ j x hj ho)

theorem Rep.mov0 {S S' : Sit} (hm : Mov S S' (fun _ => False)) {v : AV} {u : Value} (h : Rep S v u) : Rep S' v u := h.mov hm fun _ h => h.elim

theorem Mov.refl (S : Sit) : Mov S S (fun _ => False) := ⟨Le.refl S, fun x o h _ => ⟨o, h, rfl, rfl, rfl, rfl, rfl, fun cur hc => ⟨cur, hc, rfl⟩⟩, fun _ _ h => ⟨h, rfl⟩⟩

theorem SimH.lt {S : Sit} (h : SimH S) {x : ID} {o : Obj} (hx : S.O x = some o) : S.β x < S.w.heap.size := by
  obtain ⟨cur, hc, _⟩ := h.obj x o hx
  exact (Array.getElem?_eq_some_iff.1 hc).1

/-- What the start of the call asks, where only blocks that are the call's own have turned. -/
theorem Ext.own {A B B' : Sit} (h : Ext A B) (hO : B'.O = B.O) (hβ : B'.β = B.β) (hh' : B'.hid = B.hid) (hB : B'.B0 = B.B0) (htk : B.tk ≤ B'.tk) (hτ : ∀ t, t < B.tk → B'.τ t = B.τ t)
    (hos : B'.w.os = B.w.os) (htp : B'.w.tape = B.w.tape) (hou : B'.w.output = B.w.output) (hsz : B.w.heap.size ≤ B'.w.heap.size)
    (hA : ∀ x o, A.O x = some o → A.β x < A.w.heap.size) (hh : ∀ b, b < A.w.heap.size → B'.w.heap[b]? = B.w.heap[b]?) (hfr : ∀ t, B.tk ≤ t → t < B'.tk → A.w.heap.size ≤ B'.τ t) (hfz : B'.fz = B.fz := by rfl) : Ext A B' := by
  refine ⟨⟨Nat.le_trans h.size hsz, hos.trans h.os, htp.trans h.tape, hou.trans h.output, hB.trans h.B0, Nat.le_trans h.tk htk, fun t ht => (hτ t (Nat.lt_of_lt_of_le ht h.tk)).trans (h.tau t ht), fun b hb => ?_⟩, fun x o hx => ?_, fun x hx => by rw [hO]; exact h.non x hx, fun x z hx => by rw [hh', hβ]; exact h.hid x z hx, hh'.trans h.hidE, hfz.trans h.fzE, fun t h1 h2 => ?_⟩
  · obtain ⟨h1, h2⟩ := h.con b hb
    refine ⟨⟨Nat.lt_of_lt_of_le h1.1 hsz, fun ⟨x, hx, hxb⟩ => h1.2 ⟨x, by rw [← hO]; exact hx, by rw [← hβ]; exact hxb⟩⟩, (hh b hb.1).trans h2⟩
  · obtain ⟨o', h1, h2, h3, h4, h5, h6⟩ := h.obj x o hx
    refine ⟨o', by rw [hO]; exact h1, h2, h3, h4, by rw [hβ]; exact h5, fun hb => ⟨(h6 hb).1, ?_⟩⟩
    rw [hh _ (hA x o hx)]
    exact (h6 hb).2
  · by_cases hb : t < B.tk
    · rw [hτ t hb]; exact h.fresh t h1 hb
    · exact hfr t (by omega) h2

/-- An object of the call's own, in new memory. -/
theorem At.adopt {C : Ctx} {σ : St} {a : Act} {w : World} {S : Sit} (h : At C σ a w S) {d : Nat} (hd : look d σ.l = none) (o : Obj) (cur : Array Value)
    (hsz : o.es.length * o.sz ≤ cur.size) (hbox : o.box = true → o.es.length = 1 ∧ cur.size = o.sz) (hes : ∀ e ∈ o.es, e.length = o.sz)
    (hc : ∀ (i : Nat) (e : List AV) (j : Nat) (v : AV), o.es[i]? = some e → e[j]? = some v → v.d1 = true ∧ ∃ u, cur[i * o.sz + j]? = some u ∧ Rep S v u ∧ (o.box = false → RepC S v u))
    (w' : World) (g : Nat) (hg : S.w.heap.size ≤ g) (hnew : w'.heap[g]? = some (.cells cur o.ty (0, 0))) (hold : ∀ b, b < S.w.heap.size → w'.heap[b]? = S.w.heap[b]?) (hsize : S.w.heap.size ≤ w'.heap.size)
    (hos : w'.os = S.w.os) (htp : w'.tape = S.w.tape) (hou : w'.output = S.w.output) :
    ∃ S', At C ⟨σ.env, (d, o) :: σ.l, σ.b, σ.O, σ.tk⟩ a w' S' ∧ Mov S S' (fun _ => False) ∧ S'.β (.loc d) = g ∧ S'.O (.loc d) = some o := by
  have hwS := h.w
  subst hwS
  let σ' : St := ⟨σ.env, (d, o) :: σ.l, σ.b, σ.O, σ.tk⟩
  let S' : Sit := { S with w := w', β := fun x => if x = .loc d then g else S.β x, O := C.heap σ' }
  have hOd : S'.O (.loc d) = some o := by
    show look d ((d, o) :: σ.l) = some o
    simp [look]
  have hOn : ∀ x, x ≠ .loc d → S'.O x = S.O x := by
    intro x hx
    rw [h.O]
    cases x with
    | loc i =>
      have hne : i ≠ d := fun e => hx (by rw [e])
      show look i ((d, o) :: σ.l) = look i σ.l
      have : Nat.beq i d = false := by rw [← Bool.not_eq_true]; intro hh; exact hne (Nat.eq_of_beq_eq_true hh)
      simp only [look, this]
    | bor i => rfl
    | up x => rfl
  have hSd : S.O (.loc d) = none := by rw [h.O]; exact hd
  have hβn : ∀ x, x ≠ .loc d → S'.β x = S.β x := fun x hx => if_neg hx
  have hβd : S'.β (.loc d) = g := if_pos rfl
  have hlive : ∀ b, b < S.w.heap.size → S'.live b → S.live b := by
    rintro b hb ⟨x, hx, rfl⟩
    by_cases hxd : x = .loc d
    · subst hxd; rw [hβd] at hb; omega
    · exact ⟨x, by rw [← hOn x hxd]; exact hx, (hβn x hxd).symm⟩
  have hle : Le S S' := ⟨hsize, hos, htp, hou, rfl, Nat.le_refl _, fun _ _ => rfl, fun b hb => ⟨⟨Nat.lt_of_lt_of_le hb.1 hsize, fun hl => hb.2 (hlive b hb.1 hl)⟩, hold b hb.1⟩⟩
  have hmov : Mov S S' (fun _ => False) := ⟨hle, fun x ob hx _ => by
    have hxd : x ≠ .loc d := fun e => by rw [e, hSd] at hx; cases hx
    refine ⟨ob, by rw [hOn x hxd]; exact hx, rfl, rfl, rfl, hβn x hxd, rfl, fun c hcur => ⟨c, ?_, rfl⟩⟩
    rw [show S'.w = w' from rfl, hold _ (h.sim.lt hx)]; exact hcur, fun x z hx => ⟨hx, hβn x fun e => by subst e; rw [h.hl d] at hx; cases hx⟩⟩
  refine ⟨S', ⟨rfl, rfl, h.tk, ?_, fun i v hv => ?_, h.nt, h.defers, ?_, fun i hi => ?_, h.bl, h.nd, fun i x hx => ?_, h.h0, h.hl, h.hu, h.hv, h.hf⟩, hmov, hβd, hOd⟩
  · refine ⟨fun x ob hx => ?_, fun x y hx hy hxy => ?_, fun x hx => ?_, fun t h1 h2 => ?_, h.sim.tinj, Nat.le_trans h.sim.b0 hsize, fun x z hx => by rw [hOn x fun e => by subst e; rw [show S'.hid = S.hid from rfl, h.hl d] at hx; cases hx]; exact h.sim.hid x z hx, h.sim.tk2⟩
    · by_cases hxd : x = .loc d
      · subst hxd
        rw [hOd] at hx
        cases hx
        rw [hβd]
        exact ⟨cur, hnew, hsz, hbox, hes, fun i e j v hi hj => let ⟨h1, u, h2, h3, h4⟩ := hc i e j v hi hj; ⟨h1, u, h2, h3.mov0 hmov, fun hb => (h4 hb).le hle⟩⟩
      · rw [hOn x hxd] at hx
        obtain ⟨cu, h1, h2, h3, h4, h5⟩ := h.sim.obj x ob hx
        rw [hβn x hxd]
        refine ⟨cu, by rw [show S'.w = w' from rfl, hold _ (h.sim.lt hx)]; exact h1, h2, h3, h4, fun i e j v hi hj => let ⟨q1, u, q2, q3, q4⟩ := h5 i e j v hi hj; ⟨q1, u, q2, q3.mov0 hmov, fun hb => (q4 hb).le hle⟩⟩
    · by_cases hxd : x = .loc d
      · by_cases hyd : y = .loc d
        · rw [hxd, hyd]
        · subst hxd
          rw [hβd, hβn y hyd] at hxy
          rw [hOn y hyd] at hy
          obtain ⟨oy, hoy⟩ := Option.isSome_iff_exists.1 hy
          have := h.sim.lt hoy
          omega
      · by_cases hyd : y = .loc d
        · subst hyd
          rw [hβd, hβn x hxd] at hxy
          rw [hOn x hxd] at hx
          obtain ⟨ox, hox⟩ := Option.isSome_iff_exists.1 hx
          have := h.sim.lt hox
          omega
        · rw [hβn x hxd, hβn y hyd] at hxy
          exact h.sim.inj x y (by rw [← hOn x hxd]; exact hx) (by rw [← hOn y hyd]; exact hy) hxy
    · by_cases hxd : x = .loc d
      · subst hxd; rw [hβd]; exact Nat.le_trans h.sim.b0 hg
      · rw [hβn x hxd]; exact h.sim.base x (by rw [← hOn x hxd]; exact hx)
    · obtain ⟨q1, q2, q3⟩ := h.sim.tok t h1 h2
      refine ⟨Nat.lt_of_lt_of_le q1 hsize, fun hl => q2 (hlive _ q1 hl), q3⟩
  · obtain ⟨u, hu, hr⟩ := h.env i v hv
    exact ⟨u, hu, hr.mov0 hmov⟩
  · exact h.ext.own rfl (funext fun x => hβn (.up x) (fun e => by cases e)) rfl rfl (Nat.le_refl _) (fun _ _ => rfl) hos htp hou hle.size (fun x o hx => h.h0.lt hx)
      (fun b hb => hold b (Nat.lt_of_lt_of_le hb h.ext.size)) (fun t h1 h2 => absurd h1 (Nat.not_le_of_lt h2))
  · by_cases hid : i = d
    · subst hid; rw [hβd]; exact Nat.le_trans h.ext.size hg
    · rw [hβn (.loc i) (fun e => hid (by cases e; rfl))]
      refine h.new i ?_
      have : Nat.beq i d = false := by rw [← Bool.not_eq_true]; intro hh; exact hid (Nat.eq_of_beq_eq_true hh)
      simpa only [look, this] using hi
  · rw [hβn (.bor i) (fun e => by cases e), hβn (.up x) (fun e => by cases e)]
    exact h.bb i x hx

/-- A new object of the call's own. -/
theorem At.add {C : Ctx} {σ : St} {a : Act} {w : World} {S : Sit} (h : At C σ a w S) {d : Nat} (hd : look d σ.l = none) (o : Obj) (cur : Array Value)
    (hsz : o.es.length * o.sz ≤ cur.size) (hbox : o.box = true → o.es.length = 1 ∧ cur.size = o.sz) (hes : ∀ e ∈ o.es, e.length = o.sz)
    (hc : ∀ (i : Nat) (e : List AV) (j : Nat) (v : AV), o.es[i]? = some e → e[j]? = some v → v.d1 = true ∧ ∃ u, cur[i * o.sz + j]? = some u ∧ Rep S v u ∧ (o.box = false → RepC S v u))
    (w' : World) (hw' : w' = (w.drew.alloc (.cells cur o.ty)) ∨ w' = w.alloc (.cells cur o.ty)) :
    ∃ S', At C ⟨σ.env, (d, o) :: σ.l, σ.b, σ.O, σ.tk⟩ a w' S' ∧ Mov S S' (fun _ => False) ∧ S'.β (.loc d) = w.heap.size ∧ S'.O (.loc d) = some o := by
  have hwS := h.w
  subst hwS
  have hnew : w'.heap[S.w.heap.size]? = some (.cells cur o.ty (0, 0)) := by
    rcases hw' with rfl | rfl
    · exact heap_alloc_new S.w.drew _
    · exact heap_alloc_new S.w _
  have hold : ∀ b, b < S.w.heap.size → w'.heap[b]? = S.w.heap[b]? := by
    intro b hb
    rcases hw' with rfl | rfl
    · exact heap_alloc_old S.w.drew _ hb
    · exact heap_alloc_old S.w _ hb
  have hsize : S.w.heap.size ≤ w'.heap.size := by rcases hw' with rfl | rfl <;> simp
  have hos : w'.os = S.w.os := by rcases hw' with rfl | rfl <;> rfl
  have htp : w'.tape = S.w.tape := by rcases hw' with rfl | rfl <;> rfl
  have hou : w'.output = S.w.output := by rcases hw' with rfl | rfl <;> rfl
  exact h.adopt hd o cur hsz hbox hes hc w' S.w.heap.size (Nat.le_refl _) hnew hold hsize hos htp hou

theorem keep_mov {S S' : Sit} (hmov : Mov S S' (fun _ => False)) {W : List ID} (hh : ∀ b, b < S.w.heap.size → (∀ x ∈ W, S.β x ≠ b) → S'.w.heap[b]? = S.w.heap[b]?) : KeepW S S' W :=
  ⟨⟨hmov.size, hh⟩, fun x hx => by
    obtain ⟨o, ho⟩ := Option.isSome_iff_exists.1 hx
    obtain ⟨o', h1, _, _, _, h2, _⟩ := hmov.keep x o ho (fun h => h)
    exact ⟨by rw [h1]; rfl, .inl h2⟩⟩
theorem keep_alloc {S S' : Sit} (hmov : Mov S S' (fun _ => False)) {W : List ID} {c : Go.Obj} (hw : S'.w = S.w.alloc c ∨ S'.w = S.w.drew.alloc c) : KeepW S S' W :=
  keep_mov hmov fun b hb _ => by
    rcases hw with hw | hw <;> rw [hw]
    · exact heap_alloc_old S.w _ hb
    · exact heap_alloc_old S.w.drew _ hb
theorem keep_row {S S' : Sit} (hmov : Mov S S' (fun _ => False)) {x : ID} {cur : Array Value} (hw : S'.w = S.w.setRow (S.β x) cur) : KeepW S S' [x] :=
  keep_mov hmov fun b _ hx => by rw [hw]; exact setRow_other S.w _ b cur fun e => hx x (List.mem_singleton.2 rfl) e.symm

end Go.Am
