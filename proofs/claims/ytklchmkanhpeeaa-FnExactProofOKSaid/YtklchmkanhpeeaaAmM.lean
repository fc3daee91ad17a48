/- The abstract memory logic, thirteenth part: append. -/
import Derived.Test.YtklchmkanhpeeaaAmL
namespace Go.Am
open Go

/-- The row k turns: other cells, perhaps another block. -/
theorem At.turn {C : Ctx} {σ : St} {a : Act} {S : Sit} (h : At C σ a S.w S) {k : Nat} {o : Obj} (hk : look k σ.l = some o) (hb : o.box = false) (es' : List (List AV)) (hes : ∀ e ∈ es', e.length = o.sz)
    (w' : World) (g' : Nat) (cur' : Array Value) (c' : Nat) (hg : w'.heap[g']? = some (.cells cur' o.ty (0, 0))) (hgn : g' = S.β (.loc k) ∨ S.w.heap.size ≤ g') (hcs : cur'.size = c' * o.sz) (hel : es'.length ≤ c') (hcm : c' ≤ maxLen)
    (hold : ∀ b, b < S.w.heap.size → b ≠ S.β (.loc k) → w'.heap[b]? = S.w.heap[b]?) (hsz : S.w.heap.size ≤ w'.heap.size) (hos : w'.os = S.w.os) (htp : w'.tape = S.w.tape) (hou : w'.output = S.w.output)
    (hc : ∀ (i : Nat) (e : List AV) (j : Nat) (v : AV), es'[i]? = some e → e[j]? = some v → v.d1 = true ∧ ∃ u, cur'[i * o.sz + j]? = some u ∧ RepC S v u) :
    ∃ S', At C ⟨subE k .jnk σ.env, setl k { o with es := es' } (subO k .jnk σ.l), σ.b, σ.O, σ.tk⟩ a w' S' ∧ Rep S' (.osl (.loc k)) (.slice (some ⟨g', 0, none⟩) es'.length c') ∧ KeepW S S' [.loc k] := by
  have hSk : S.O (.loc k) = some o := by rw [h.O]; exact hk
  let o1 : Obj := { o with es := es' }
  let l1 := setl k o1 (subO k .jnk σ.l)
  let σ' : St := ⟨subE k .jnk σ.env, l1, σ.b, σ.O, σ.tk⟩
  let S' : Sit := { S with w := w', β := fun x => if x = .loc k then g' else S.β x, O := C.heap σ' }
  have hks : (look k (subO k .jnk σ.l)).isSome = true := by rw [look_subO, hk]; rfl
  have hl : ∀ i, i ≠ k → look i l1 = look i (subO k .jnk σ.l) := fun i hi => by show look i (setl k o1 _) = _; rw [look_setl hks, if_neg hi]
  have hheap := fun (x : ID) (hx : x ≠ .loc k) (ox : Obj) => heap_sub (C := C) (σ := σ) (k := k) (r := .jnk) (l' := l1) (tk' := σ.tk) hl hx (o := ox)
  have hSk' : S'.O (.loc k) = some o1 := by show look k (setl k o1 _) = _; rw [look_setl hks, if_pos rfl]
  have hβn : ∀ x, x ≠ .loc k → S'.β x = S.β x := fun x hx => if_neg hx
  have hβk : S'.β (.loc k) = g' := if_pos rfl
  have back : ∀ x, x ≠ .loc k → (S'.O x).isSome = true → (S.O x).isSome = true := fun x hxk hx => by
    cases hq : S.O x with
    | none => rw [h.O] at hq; have := (hheap x hxk o).2 hq; rw [show S'.O x = C.heap σ' x from rfl, this] at hx; cases hx
    | some _ => rfl
  have hlive : ∀ b, b < S.w.heap.size → S'.live b → S.live b := by
    rintro b hb ⟨x, hx, rfl⟩
    by_cases hxk : x = .loc k
    · subst hxk
      rw [hβk] at hb ⊢
      rcases hgn with rfl | hgn
      · exact ⟨_, by rw [hSk]; rfl, rfl⟩
      · omega
    · exact ⟨x, back x hxk hx, (hβn x hxk).symm⟩
  have hle : Le S S' := ⟨hsz, hos, htp, hou, rfl, Nat.le_refl _, fun _ _ => rfl, fun b hb => ⟨⟨Nat.lt_of_lt_of_le hb.1 hsz, fun hl => hb.2 (hlive b hb.1 hl)⟩, hold b hb.1 fun e => hb.2 ⟨_, by rw [hSk]; rfl, e.symm⟩⟩⟩
  have hne : ∀ x ox, S.O x = some ox → x ≠ .loc k → S.β x ≠ S.β (.loc k) := fun x ox hx hxk e => hxk (h.sim.inj x _ (by rw [hx]; rfl) (by rw [hSk]; rfl) e)
  have hgone : Gone S S' k .jnk := ⟨hle, fun x ox hx hxk => by
    obtain ⟨o', r1, r2, r3, r4, r5, _, _⟩ := (hheap x hxk ox).1 (by rw [← h.O]; exact hx)
    refine ⟨o', r1, r2, r3, r4, hβn x hxk, r5, fun c hc => ⟨c, ?_, rfl⟩⟩
    show w'.heap[S.β x]? = _
    rw [hold _ (h.sim.lt hx) (hne x ox hx hxk)]
    exact hc, fun u hu => .jnk u (by obtain ⟨_, _, _, _, _, _, _, _, _, rfl⟩ := rep_osl hu; rfl), fun x z hx => ⟨hx, hβn x fun e => by subst e; rw [h.hl k] at hx; cases hx⟩, rfl⟩
  have hsim : SimH S' := by
    refine ⟨fun x ox hx => ?_, fun x y hx hy hxy => ?_, fun x hx => ?_, fun t h1 h2 => ?_, h.sim.tinj, Nat.le_trans h.sim.b0 hsz, fun x z hx => ?_, h.sim.tk2⟩
    · by_cases hxk : x = .loc k
      · subst hxk
        rw [hSk'] at hx
        cases hx
        rw [hβk]
        refine ⟨cur', hg, ?_, (fun hbx => by rw [show o1.box = o.box from rfl, hb] at hbx; cases hbx), hes, fun i e j v hi hj => ?_⟩
        · show es'.length * o.sz ≤ cur'.size
          rw [hcs]; exact Nat.mul_le_mul_right _ hel
        · obtain ⟨s1, u, s2, s3⟩ := hc i e j v hi hj
          exact ⟨s1, u, s2, .clo (s3.le hle), fun _ => s3.le hle⟩
      · have hxs := back x hxk (by rw [hx]; rfl)
        obtain ⟨oo, hoo⟩ := Option.isSome_iff_exists.1 hxs
        obtain ⟨o', r1, r2, r3, r4, r5, r6, r7⟩ := (hheap x hxk oo).1 (by rw [← h.O]; exact hoo)
        rw [show S'.O x = C.heap σ' x from rfl, r1] at hx
        cases hx
        obtain ⟨c, p1, p2, p3, p4, p5⟩ := h.sim.obj x oo hoo
        rw [hβn x hxk]
        refine ⟨c, ?_, by rw [r3, r5]; exact p2, fun hbx => by rw [r5, r3]; exact p3 (by rw [← r4]; exact hbx), ?_, fun i e j v hi hj => ?_⟩
        · show w'.heap[S.β x]? = _
          rw [hold _ (h.sim.lt hoo) (hne x oo hoo hxk), r2]; exact p1
        · intro e he
          rw [r3]
          cases hbx : oo.box with
          | false => rw [r6 hbx] at he; exact p4 e he
          | true =>
            obtain ⟨i, hi⟩ := List.mem_iff_getElem?.1 he
            obtain ⟨e0, he0⟩ : ∃ e0, oo.es[i]? = some e0 := ⟨_, List.getElem?_eq_getElem (by rw [← r5]; exact (List.getElem?_eq_some_iff.1 hi).1)⟩
            have hlen := p4 e0 (List.mem_of_getElem? he0)
            cases x with
            | loc n =>
              have hnk : n ≠ k := fun e => hxk (by rw [e])
              have hoo' : look n σ.l = some oo := by rw [h.O] at hoo; exact hoo
              have : look n l1 = some ox := r1
              rw [hl n hnk, look_subO, hoo'] at this
              cases this
              simp only [Obj.sub, hbx, if_true, List.getElem?_map, he0, Option.map_some, Option.some.injEq] at hi
              rw [← hi, subL_length]; exact hlen
            | bor n =>
              have hoo' : C.heap σ (.bor n) = some oo := by rw [← h.O]; exact hoo
              have : C.heap σ (.bor n) = some ox := r1
              rw [hoo'] at this; cases this
              exact p4 e he
            | up n =>
              have hoo' : C.heap σ (.up n) = some oo := by rw [← h.O]; exact hoo
              have : C.heap σ (.up n) = some ox := r1
              rw [hoo'] at this; cases this
              exact p4 e he
        · rw [r3]
          cases hbx : oo.box with
          | false =>
            have := r6 hbx
            subst this
            obtain ⟨s1, u, s2, s3, s4⟩ := p5 i e j v hi hj
            exact ⟨s1, u, s2, .clo ((s4 hbx).le hle), fun _ => (s4 hbx).le hle⟩
          | true =>
            obtain ⟨e0, v0, t1, t2, rfl⟩ := r7 i e j v hi hj hbx
            obtain ⟨s1, u, s2, s3, s4⟩ := p5 i e0 j v0 t1 t2
            have := cell_gone hgone s3 s1
            exact ⟨this.2, u, s2, this.1, fun hf => by rw [r4, hbx] at hf; cases hf⟩
    · by_cases hxk : x = .loc k <;> by_cases hyk : y = .loc k
      · rw [hxk, hyk]
      · subst hxk
        rw [hβk, hβn y hyk] at hxy
        obtain ⟨oy, hoy⟩ := Option.isSome_iff_exists.1 (back y hyk hy)
        rcases hgn with e | hgn
        · exact absurd (by rw [← hxy, e]) (hne y oy hoy hyk)
        · have := h.sim.lt hoy; omega
      · subst hyk
        rw [hβk, hβn x hxk] at hxy
        obtain ⟨ox, hox⟩ := Option.isSome_iff_exists.1 (back x hxk hx)
        rcases hgn with e | hgn
        · exact absurd (by rw [hxy, e]) (hne x ox hox hxk)
        · have := h.sim.lt hox; omega
      · rw [hβn x hxk, hβn y hyk] at hxy
        exact h.sim.inj x y (back x hxk hx) (back y hyk hy) hxy
    · by_cases hxk : x = .loc k
      · subst hxk
        rw [hβk]
        rcases hgn with rfl | hgn
        · exact h.sim.base _ (by rw [hSk]; rfl)
        · exact Nat.le_trans h.sim.b0 hgn
      · rw [hβn x hxk]; exact h.sim.base x (back x hxk hx)
    · obtain ⟨s1, s2, s3⟩ := h.sim.tok t h1 h2
      exact ⟨Nat.lt_of_lt_of_le s1 hsz, fun hl => s2 (hlive _ s1 hl), s3⟩
    · have hx' := h.sim.hid x z hx
      rw [h.O] at hx'
      exact (hheap x (fun e => by subst e; rw [show S'.hid = S.hid from rfl, h.hl k] at hx; cases hx) o).2 hx'
  have hnewk : C.S0.w.heap.size ≤ g' := by
    rcases hgn with rfl | hgn
    · exact h.new k (by rw [hk]; rfl)
    · exact Nat.le_trans h.ext.size hgn
  refine ⟨S', ⟨rfl, rfl, h.tk, hsim, fun i v hv => ?_, h.nt, h.defers, ?_, fun i hi => ?_, h.bl, h.nd, fun i x hx => ?_, h.h0, h.hl, h.hu, h.hv, h.hf⟩, ?_, ⟨⟨hsz, fun b hbb hx => hold b hbb fun e => hx _ (List.mem_singleton.2 rfl) e.symm⟩, fun x hx => ?_⟩⟩
  · rw [look_subE] at hv
    obtain ⟨v0, hv0, rfl⟩ := Option.map_eq_some_iff.1 hv
    obtain ⟨u, hu, hr⟩ := h.env i v0 hv0
    exact ⟨u, hu, hr.gone hgone⟩
  · refine h.ext.own rfl (funext fun x => hβn (.up x) fun e => by cases e) rfl rfl (Nat.le_refl _) (fun _ _ => rfl) hos htp hou hsz (fun x o hx => h.h0.lt hx) (fun b hbb => ?_) (fun t h1 h2 => absurd h1 (Nat.not_le_of_lt h2))
    exact hold b (Nat.lt_of_lt_of_le hbb h.ext.size) fun e => by have := h.new k (by rw [hk]; rfl); omega
  · by_cases hik : i = k
    · subst hik; rw [hβk]; exact hnewk
    · rw [hβn (.loc i) fun e => hik (by cases e; rfl)]
      refine h.new i ?_
      rw [hl i hik, look_subO] at hi
      cases hq : look i σ.l with
      | none => rw [hq] at hi; cases hi
      | some _ => rfl
  · rw [hβn (.bor i) (fun e => by cases e), hβn (.up x) (fun e => by cases e)]
    exact h.bb i x hx
  · have := Rep.osl (S := S') (.loc k) o1 c' cur' hSk' hb (by rw [hβk]; exact hg) hcs hel hcm
    rw [hβk] at this
    exact this
  · by_cases hxk : x = .loc k
    · subst hxk; exact ⟨by rw [hSk']; rfl, by rw [hβk]; exact hgn⟩
    · obtain ⟨ox, hox⟩ := Option.isSome_iff_exists.1 hx
      obtain ⟨o', r1, _⟩ := (hheap x hxk ox).1 (by rw [← h.O]; exact hox)
      exact ⟨by rw [show S'.O x = C.heap σ' x from rfl, r1]; rfl, .inl (hβn x hxk)⟩

/-- The elements of a slice that nobody writes while they are read. -/
def elems (σ : St) : AV → Option (List (List AV))
  | .imm _ _ _ es => some es
  | .osl (.loc k) => match look k σ.l with
    | some o => match o.box with
      | false => some o.es
      | true => none
    | none => none
  | _ => none

/-- A slice's cells in the world, one behind the other. -/
theorem elems_rep {C : Ctx} {σ : St} {a : Act} {w : World} {S : Sit} (hat : At C σ a w S) {p : AV} {u : Value} {es : List (List AV)} {sz : Nat} (hp : Rep S p u) (h : elems σ p = some es) (hsz : ∀ e ∈ es, e.length = sz) :
    ∃ (ad : Option Addr) (c : Nat) (f : Nat → Nat → Value), u = .slice ad es.length c ∧ es.length ≤ c ∧ c ≤ maxLen ∧ (es ≠ [] → ∃ b off, ad = some ⟨b, off, none⟩ ∧
      ∀ (i : Nat) (e : List AV) (j : Nat) (x : AV), es[i]? = some e → e[j]? = some x → x.d1 = true ∧ w.cell? ⟨b, off + (i * sz + j), none⟩ = some (f i j) ∧ RepC S x (f i j)) := by
  have hw := hat.w
  subst hw
  unfold elems at h
  split at h
  · rename_i tok sz' full es'
    cases h
    have hr := rep_imm hp
    cases hr with
    | imm0 _ _ _ ad c hf hm => exact ⟨ad, c, fun _ _ => undef, rfl, Nat.zero_le _, hm, fun h => absurd rfl h⟩
    | imm _ _ _ _ b off c us hne hc hl hm hf ht h0 hsz' hs h1 h2 =>
      refine ⟨some ⟨b, off, none⟩, c, us, rfl, hl, hm, fun _ => ⟨b, off, rfl, fun i e j x hi hj => ⟨hs i e j x hi hj, ?_, h2 i e j x hi hj⟩⟩⟩
      have : sz = sz' := by rw [← hsz e (List.mem_of_getElem? hi), hsz' e (List.mem_of_getElem? hi)]
      subst this
      exact h1 i e j x hi hj
  · rename_i k
    split at h
    · rename_i o ho
      split at h
      · rename_i hb
        cases h
        obtain ⟨o', c, cur, ho', hb', hw', hc, hl, hm, rfl⟩ := rep_osl hp
        have hSo : S.O (.loc k) = some o := by rw [hat.O]; exact ho
        rw [hSo] at ho'
        cases ho'
        obtain ⟨cur', q1, q2, q3, q4, q5⟩ := hat.sim.obj _ _ hSo
        rw [hw'] at q1
        cases q1
        refine ⟨_, c, fun i j => cur.getD (i * o.sz + j) undef, rfl, hl, hm, fun _ => ⟨S.β (.loc k), 0, rfl, fun i e j x hi hj => ?_⟩⟩
        have : sz = o.sz := by rw [← hsz e (List.mem_of_getElem? hi), q4 e (List.mem_of_getElem? hi)]
        subst this
        obtain ⟨s1, v, s2, s3, s4⟩ := q5 i e j x hi hj
        have hlt := (Array.getElem?_eq_some_iff.1 s2).1
        have hv : cur.getD (i * o.sz + j) undef = v := by simp [s2]
        refine ⟨s1, ?_, by simp only [hv]; exact s4 hb⟩
        rw [Nat.zero_add]
        simp [World.cell?, hw', Array.getD, hlt]
      · cases h
    · cases h
  · cases h

end Go.Am
