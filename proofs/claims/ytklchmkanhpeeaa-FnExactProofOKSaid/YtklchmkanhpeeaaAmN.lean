/- The abstract memory logic, fourteenth part: the operations append, buildSlice, makeSlice, and slicing. -/
import Derived.Test.YtklchmkanhpeeaaAmM
import Derived.Great.BuildSlice
namespace Go.Am
open Go

/-- The cells of rows, one behind the other. -/
def flat (n sz : Nat) (f : Nat → Nat → Value) : List Value := (List.range (n * sz)).map fun k => f (k / sz) (k % sz)

theorem flat_length (n sz : Nat) (f : Nat → Nat → Value) : (flat n sz f).length = n * sz := by simp [flat]
theorem flat_get {n sz : Nat} {f : Nat → Nat → Value} {i j : Nat} (hi : i < n) (hj : j < sz) : (flat n sz f)[i * sz + j]? = some (f i j) := by
  have hlt : i * sz + j < n * sz := by
    have := Nat.mul_le_mul_right sz (show i + 1 ≤ n from hi)
    rw [Nat.add_mul, Nat.one_mul] at this
    omega
  have h1 : (i * sz + j) / sz = i := by rw [Nat.mul_comm, Nat.mul_add_div (by omega)]; simp [Nat.div_eq_of_lt hj]
  have h2 : (i * sz + j) % sz = j := by rw [Nat.mul_comm, Nat.mul_add_mod]; exact Nat.mod_eq_of_lt hj
  simp [flat, hlt, h1, h2]
theorem flat_of {n sz : Nat} {f : Nat → Nat → Value} {k : Nat} {u : Value} (h : (flat n sz f)[k]? = some u) : k < n * sz ∧ u = f (k / sz) (k % sz) := by
  have hlt : k < n * sz := by have := (List.getElem?_eq_some_iff.1 h).1; rwa [flat_length] at this
  refine ⟨hlt, ?_⟩
  simp [flat, hlt] at h
  exact h.symm

theorem div_lt {k n sz : Nat} (h : k < n * sz) : k / sz < n ∧ k % sz < sz := by
  have hs : 0 < sz := by
    rcases Nat.eq_zero_or_pos sz with rfl | h'
    · simp at h
    · exact h'
  exact ⟨(Nat.div_lt_iff_lt_mul hs).2 h, Nat.mod_lt _ hs⟩

theorem cell_at (es : List (List AV)) {sz : Nat} (hes : ∀ e ∈ es, e.length = sz) {i j : Nat} (hi : i < es.length) (hj : j < sz) : ∃ e v, es[i]? = some e ∧ e[j]? = some v :=
  ⟨es[i], (es[i])[j]'(by rw [hes _ (List.getElem_mem hi)]; exact hj), List.getElem?_eq_getElem hi, List.getElem?_eq_getElem _⟩

theorem app_get {es es2 : List (List AV)} {sz : Nat} {f g : Nat → Nat → Value} (hes : ∀ e ∈ es, e.length = sz) (hes2 : ∀ e ∈ es2, e.length = sz) {i : Nat} {e : List AV} {j : Nat} {v : AV}
    (hi : (es ++ es2)[i]? = some e) (hj : e[j]? = some v) :
    (i < es.length ∧ es[i]? = some e ∧ (flat es.length sz f ++ flat es2.length sz g)[i * sz + j]? = some (f i j)) ∨
    (es.length ≤ i ∧ es2[i - es.length]? = some e ∧ (flat es.length sz f ++ flat es2.length sz g)[i * sz + j]? = some (g (i - es.length) j)) := by
  have hjs : j < sz := by
    have hm := List.mem_of_getElem? hi
    rw [List.mem_append] at hm
    rw [← hm.elim (hes e) (hes2 e)]
    exact (List.getElem?_eq_some_iff.1 hj).1
  by_cases h : i < es.length
  · refine .inl ⟨h, by rw [List.getElem?_append_left h] at hi; exact hi, ?_⟩
    rw [List.getElem?_append_left (by rw [flat_length]; have := Nat.mul_le_mul_right sz (show i + 1 ≤ es.length from h); rw [Nat.add_mul, Nat.one_mul] at this; omega)]
    exact flat_get h hjs
  · have h' : es.length ≤ i := Nat.le_of_not_lt h
    have hi2 : i - es.length < es2.length := by have := (List.getElem?_eq_some_iff.1 hi).1; simp at this; omega
    refine .inr ⟨h', by rw [List.getElem?_append_right h'] at hi; exact hi, ?_⟩
    have hm : es.length * sz ≤ i * sz := Nat.mul_le_mul_right sz h'
    rw [List.getElem?_append_right (by rw [flat_length]; omega), flat_length, show i * sz + j - es.length * sz = (i - es.length) * sz + j by rw [Nat.sub_mul]; omega]
    exact flat_get hi2 hjs

/-- append to a row of the call's own. -/
theorem append_step {C : Ctx} {Γ : TTab} (hG : GOK C.P Γ) {σ : St} {op : Oper} {T e : TypeId} {x y : Operand} (ho : op.op = .call { callee := .builtin .append, args := #[x, y], argTypes := #[T, T] })
    {i ie : TI} (hT : look T Γ = some i) (hd : i.desc = .slice e) (he : look e Γ = some ie) {k : Nat} {o : Obj} {q : AV} {es2 : List (List AV)} (hx : oev σ.env x = some (.osl (.loc k))) (hy : oev σ.env y = some q)
    (hk : look k σ.l = some o) (hb : o.box = false) (hty : o.ty = e) (hsz : o.sz = ie.size) (hq : elems σ q = some es2) (hes2 : ∀ e ∈ es2, e.length = ie.size)
    (hlen : (o.es.length + es2.length) * ie.bytes ≤ 140737488355328) (hm : o.es.length + es2.length ≤ 140737488355328) :
    Step C [.loc k] op σ (.osl (.loc k)) ⟨subE k .jnk σ.env, setl k { o with es := o.es ++ es2 } (subO k .jnk σ.l), σ.b, σ.O, σ.tk⟩ := by
  intro a w S hat
  have hwS := hat.w
  subst hwS
  have hU := (hG T i hT).und
  rw [hd] at hU
  have hE := hG e ie he
  obtain ⟨ti, z, z1, z2, z3, z4, z5, z6⟩ := zero_rep hE S
  have hSo : S.O (.loc k) = some o := by rw [hat.O]; exact hk
  obtain ⟨cur, q1, q2, q3, q4, q5⟩ := hat.sim.obj _ _ hSo
  obtain ⟨o', c, cur', ho', hb', hw', hc, hl, hcm, hu⟩ := rep_osl (oev_rep hat hx)
  rw [hSo] at ho'
  cases ho'
  rw [q1] at hw'
  cases hw'
  obtain ⟨ad, c2, g, hu2, hl2, hm2, hcell⟩ := elems_rep hat (oev_rep hat hy) hq hes2
  have hoes : ∀ e ∈ o.es, e.length = ie.size := fun e he => by rw [← hsz]; exact q4 e he
  have hall : ∀ e ∈ o.es ++ es2, e.length = o.sz := fun e he => by
    rw [hsz]
    rcases List.mem_append.1 he with h | h
    · exact hoes e h
    · exact hes2 e h
  let f : Nat → Nat → Value := fun i j => cur.getD (i * o.sz + j) undef
  have hf : ∀ (i : Nat) (e : List AV) (j : Nat) (v : AV), o.es[i]? = some e → e[j]? = some v → v.d1 = true ∧ cur[i * o.sz + j]? = some (f i j) ∧ RepC S v (f i j) := by
    intro i e j v hi hj
    obtain ⟨s1, u, s2, s3, s4⟩ := q5 i e j v hi hj
    have : f i j = u := by simp [f, s2]
    exact ⟨s1, by rw [this]; exact s2, by rw [this]; exact s4 hb⟩
  have hmax : ∀ n, n ≤ 140737488355328 → n ≤ maxLen := fun n h => Nat.le_trans h (by unfold maxLen; decide)
  cases hes : es2 with
  | nil =>
    subst hes
    obtain ⟨S', hat', hrep, hkp⟩ := hat.turn hk hb (o.es ++ []) hall S.w (S.β (.loc k)) cur c q1 (.inl rfl) hc (by simpa using hl) hcm (fun _ _ _ => rfl) (Nat.le_refl _) rfl rfl rfl (fun i e j v hi hj => by
      rw [List.append_nil] at hi
      obtain ⟨s1, s2, s3⟩ := hf i e j v hi hj
      exact ⟨s1, _, s2, s3⟩)
    refine ⟨_, _, S', .inl ?_, hat', hrep, hkp⟩
    unfold execOp
    simp only [ho, resolve, invoke, builtin, Sem.run_bind, Sem.run_pure, Result.andThen_ok, List.map_toArray, List.map_cons, List.map_nil, hu, hu2]
    cases ad <;> simp [Builtin.append_, run_underlying hU, sizeOf, typeInfo, z1, Builtin.lenOf, hl, Builtin.firstCells, loadCells, loadCellsFrom, storeCells]
  | cons e0 r0 =>
    have hne : es2 ≠ [] := by rw [hes]; exact fun h => by cases h
    rw [← hes]
    clear hes
    obtain ⟨b, off, rfl, hcells⟩ := hcell hne
    have hpos : 0 < es2.length := List.length_pos_iff.2 hne
    have hnews : ∀ (j : Nat) (u : Value), (flat es2.length ie.size g)[j]? = some u → S.w.cell? ((⟨b, off, none⟩ : Addr).add j) = some u := by
      intro j u hj
      obtain ⟨h1, rfl⟩ := flat_of hj
      obtain ⟨d1, d2⟩ := div_lt h1
      obtain ⟨e, v, he1, hv1⟩ := cell_at es2 hes2 d1 d2
      rw [add_off]
      have := (hcells _ e _ v he1 hv1).2.1
      rwa [show j / ie.size * ie.size + j % ie.size = j by rw [Nat.mul_comm]; exact Nat.div_add_mod j ie.size] at this
    by_cases hroom : o.es.length + es2.length ≤ c
    · -- there is room
      have hfit : o.es.length * ti.size + (flat es2.length ie.size g).length ≤ cur.size := by
        rw [flat_length, hc, z2, hsz, ← Nat.add_mul]; exact Nat.mul_le_mul_right _ hroom
      have h1 : ∀ u ∈ flat es2.length ie.size g, u.oneCell' = true := by
        intro u hu
        obtain ⟨j, hj⟩ := List.mem_iff_getElem?.1 hu
        obtain ⟨h1, rfl⟩ := flat_of hj
        obtain ⟨d1, d2⟩ := div_lt h1
        obtain ⟨e, v, he1, hv1⟩ := cell_at es2 hes2 d1 d2
        obtain ⟨t1, _, t3⟩ := hcells _ e _ v he1 hv1
        exact d1_one (.clo t3) t1
      have hrun := run_append_room (P := C.P) S.w T op.type e ti hU z1 (S.β (.loc k)) o.es.length c cur (by rw [← hty]; exact q1) ⟨b, off, none⟩ es2.length c2 (flat es2.length ie.size g) (by rw [flat_length, z2]) hnews h1 hroom hfit
      rw [z2] at hrun
      have hfit' : o.es.length * ie.size + (flat es2.length ie.size g).length ≤ cur.size := by have := hfit; rw [z2] at this; exact this
      obtain ⟨p1, p2⟩ := put_cells cur (o.es.length * ie.size) (flat es2.length ie.size g) hfit'
      obtain ⟨S', hat', hrep, hkp⟩ := hat.turn hk hb (o.es ++ es2) hall _ (S.β (.loc k)) _ c (setRow_heap S.w _ cur _ _ _ q1) (.inl rfl) (by rw [p1]; exact hc) (by simpa using hroom) hcm (fun b' _ hb' => setRow_other S.w _ b' _ hb') (by simp) rfl rfl rfl (fun i e j v hi hj => by
        rw [p2]
        have hjs : j < ie.size := by rw [← hsz, ← hall e (List.mem_of_getElem? hi)]; exact (List.getElem?_eq_some_iff.1 hj).1
        rcases app_get (f := f) (g := g) hoes hes2 hi hj with ⟨t1, t2, _⟩ | ⟨t1, t2, t3⟩
        · have hml := Nat.mul_le_mul_right ie.size (show i + 1 ≤ o.es.length from t1)
          rw [Nat.add_mul, Nat.one_mul] at hml
          rw [if_neg (by rw [hsz]; omega)]
          obtain ⟨s1, s2, s3⟩ := hf i e j v t2 hj
          exact ⟨s1, _, s2, s3⟩
        · have hml : o.es.length * ie.size ≤ i * ie.size := Nat.mul_le_mul_right _ t1
          have hi2 : i - o.es.length < es2.length := (List.getElem?_eq_some_iff.1 t2).1
          have hml2 := Nat.mul_le_mul_right ie.size (show i - o.es.length + 1 ≤ es2.length from hi2)
          rw [Nat.add_mul, Nat.one_mul, Nat.sub_mul] at hml2
          rw [if_pos (by rw [hsz, flat_length]; omega), hsz, show i * ie.size + j - o.es.length * ie.size = (i - o.es.length) * ie.size + j by rw [Nat.sub_mul]; omega, flat_get hi2 hjs]
          obtain ⟨s1, _, s3⟩ := hcells _ e j v t2 hj
          exact ⟨s1, _, rfl, s3⟩)
      refine ⟨_, _, S', .inl ?_, hat', hrep, hkp⟩
      unfold execOp
      simp only [ho, resolve, invoke, builtin, Sem.run_bind, Sem.run_pure, Result.andThen_ok, List.map_toArray, List.map_cons, List.map_nil, hu, hu2, hrun, List.length_append]
    · -- it grows
      have holds : ∀ (j : Nat) (u : Value), (flat o.es.length ie.size f)[j]? = some u → S.w.cell? ((⟨S.β (.loc k), 0, none⟩ : Addr).add j) = some u := by
        intro j u hj
        obtain ⟨h1, rfl⟩ := flat_of hj
        obtain ⟨d1, d2⟩ := div_lt h1
        obtain ⟨e, v, he1, hv1⟩ := cell_at o.es hoes d1 d2
        rw [add_off, Nat.zero_add]
        have := (hf _ e _ v he1 hv1).2.1
        rw [hsz, show j / ie.size * ie.size + j % ie.size = j by rw [Nat.mul_comm]; exact Nat.div_add_mod j ie.size] at this
        simpa [World.cell?, q1] using this
      have hrun := run_append_grow (P := C.P) S.w T op.type e ti z hU z1 z4 ⟨S.β (.loc k), 0, none⟩ o.es.length c (flat o.es.length ie.size f) (by rw [flat_length, z2]) holds ⟨b, off, none⟩ es2.length c2 (flat es2.length ie.size g) (by rw [flat_length, z2]) hnews
        (by omega) (by omega) (growslice_fits (by omega) (by rw [z3]; exact hlen))
      have hcap := grownCap_ge S.w (o.es.length + es2.length) c e
      have hcapm := grownCap_le_maxLen S.w (o.es.length + es2.length) c e (hmax _ hm)
      generalize hgc : grownCap S.w (o.es.length + es2.length) c e = gc at hrun hcap hcapm
      obtain ⟨S', hat', hrep, hkp⟩ := hat.turn hk hb (o.es ++ es2) hall _ S.w.heap.size ((flat o.es.length ie.size f).toArray ++ (flat es2.length ie.size g).toArray ++ Builtin.zeroCells z.cells (gc - (o.es.length + es2.length))) gc
        (by rw [hty]; exact heap_alloc_new S.w.drew _) (.inr (Nat.le_refl _))
        (by
          simp only [Array.size_append, List.size_toArray, flat_length, size_zeroCells, z5, hE.zl, hsz]
          rw [← Nat.add_mul, ← Nat.add_mul]; congr 1; omega)
        (by simpa using hcap) hcapm (fun b' hb1 _ => heap_alloc_old S.w.drew _ hb1) (by simp) rfl rfl rfl (fun i e j v hi hj => by
          have hjs : j < ie.size := by rw [← hsz, ← hall e (List.mem_of_getElem? hi)]; exact (List.getElem?_eq_some_iff.1 hj).1
          have hil : i < o.es.length + es2.length := by have := (List.getElem?_eq_some_iff.1 hi).1; simpa using this
          have hml := Nat.mul_le_mul_right ie.size (show i + 1 ≤ o.es.length + es2.length from hil)
          rw [Nat.add_mul, Nat.one_mul, Nat.add_mul] at hml
          rw [Array.getElem?_append_left (by simp [flat_length, hsz]; omega), List.append_toArray, hsz, List.getElem?_toArray]
          rcases app_get (f := f) (g := g) hoes hes2 hi hj with ⟨t1, t2, t3⟩ | ⟨t1, t2, t3⟩
          · rw [t3]
            obtain ⟨s1, _, s3⟩ := hf i e j v t2 hj
            exact ⟨s1, _, rfl, s3⟩
          · rw [t3]
            obtain ⟨s1, _, s3⟩ := hcells _ e j v t2 hj
            exact ⟨s1, _, rfl, s3⟩)
      refine ⟨_, _, S', .inl ?_, hat', hrep, hkp⟩
      unfold execOp
      simp only [ho, resolve, invoke, builtin, Sem.run_bind, Sem.run_pure, Result.andThen_ok, List.map_toArray, List.map_cons, List.map_nil, hu, hu2, hrun, List.length_append]

end Go.Am
