/- The abstract memory logic, fifteenth part: slices built, made, appended to where there is no room; pieces of slices and strings. -/
import Derived.Test.YtklchmkanhpeeaaAmN
namespace Go.Am
open Go

/-- append where there is no room: a new row. -/
theorem appendFull_step {C : Ctx} {Γ : TTab} (hG : GOK C.P Γ) {σ : St} {op : Oper} {T e : TypeId} {x y : Operand} (ho : op.op = .call { callee := .builtin .append, args := #[x, y], argTypes := #[T, T] })
    {i ie : TI} (hT : look T Γ = some i) (hd : i.desc = .slice e) (he : look e Γ = some ie) {d : Nat} (hfree : look d σ.l = none) {tok sz : Nat} {es : List (List AV)} {q : AV} {es2 : List (List AV)}
    (hx : oev σ.env x = some (.imm tok sz true es)) (hy : oev σ.env y = some q) (hes : ∀ e ∈ es, e.length = ie.size) (hq : elems σ q = some es2) (hes2 : ∀ e ∈ es2, e.length = ie.size) (hne : es2 ≠ [])
    (hlen : (es.length + es2.length) * ie.bytes ≤ 140737488355328) (hm : es.length + es2.length ≤ 140737488355328) :
    Step C [] op σ (.osl (.loc d)) ⟨σ.env, (d, ⟨e, ie.size, false, es ++ es2⟩) :: σ.l, σ.b, σ.O, σ.tk⟩ := by
  intro a w S hat
  have hwS := hat.w
  subst hwS
  have hU := (hG T i hT).und
  rw [hd] at hU
  have hE := hG e ie he
  obtain ⟨ti, z, z1, z2, z3, z4, z5, z6⟩ := zero_rep hE S
  obtain ⟨ad1, c1, f, hu, hl1, hm1, hcell1⟩ := elems_rep hat (oev_rep hat hx) (es := es) rfl hes
  have hc1 : c1 = es.length := by
    have hr := rep_imm (oev_rep hat hx)
    rw [hu] at hr
    generalize hv : Value.slice ad1 es.length c1 = v at hr
    cases hr with
    | imm0 _ _ _ ad c hf _ => cases hv; exact (hf rfl)
    | imm _ _ _ _ b o c us hne hc hl hm hf _ _ _ _ _ _ => cases hv; exact hf rfl
  subst hc1
  obtain ⟨ad, c2, g, hu2, hl2, hm2, hcell⟩ := elems_rep hat (oev_rep hat hy) hq hes2
  obtain ⟨b, off, rfl, hcells⟩ := hcell hne
  have hpos : 0 < es2.length := List.length_pos_iff.2 hne
  have hmax : ∀ n, n ≤ 140737488355328 → n ≤ maxLen := fun n h => Nat.le_trans h (by unfold maxLen; decide)
  have hall : ∀ e ∈ es ++ es2, e.length = ie.size := fun e he => (List.mem_append.1 he).elim (hes e) (hes2 e)
  have hnews : ∀ (j : Nat) (u : Value), (flat es2.length ie.size g)[j]? = some u → S.w.cell? ((⟨b, off, none⟩ : Addr).add j) = some u := by
    intro j u hj
    obtain ⟨h1, rfl⟩ := flat_of hj
    obtain ⟨d1, d2⟩ := div_lt h1
    obtain ⟨e, v, he1, hv1⟩ := cell_at es2 hes2 d1 d2
    rw [add_off]
    have := (hcells _ e _ v he1 hv1).2.1
    rwa [show j / ie.size * ie.size + j % ie.size = j by rw [Nat.mul_comm]; exact Nat.div_add_mod j ie.size] at this
  -- what append comes to
  have hrun : ∃ gc, es.length + es2.length ≤ gc ∧ gc ≤ maxLen ∧
      (Builtin.append_ #[T, T] op.type #[.slice ad1 es.length es.length, .slice (some ⟨b, off, none⟩) es2.length c2]).run C.P S.w =
        .ok (.slice (some ⟨S.w.heap.size, 0, none⟩) (es.length + es2.length) gc) (S.w.drew.alloc (.cells ((flat es.length ie.size f).toArray ++ (flat es2.length ie.size g).toArray ++ Builtin.zeroCells z.cells (gc - (es.length + es2.length))) e)) := by
    cases hes0 : es with
    | nil =>
      subst hes0
      refine ⟨grownCap S.w es2.length 0 e, by simpa using grownCap_ge S.w es2.length 0 e, grownCap_le_maxLen S.w _ _ _ (hmax _ (by simpa using hm)), ?_⟩
      cases ad1 with
      | none =>
        have := run_append_nil (P := C.P) S.w T op.type e ti z hU z1 z4 ⟨b, off, none⟩ es2.length c2 (flat es2.length ie.size g) (by rw [flat_length, z2]) hnews hpos (by simp at hm; omega) (by rw [z3]; simp at hlen; omega)
        simpa [flat] using this
      | some ad1 =>
        have := run_append_grow (P := C.P) S.w T op.type e ti z hU z1 z4 ad1 0 0 [] (by simp) (fun j v h => by simp at h) ⟨b, off, none⟩ es2.length c2 (flat es2.length ie.size g) (by rw [flat_length, z2]) hnews (by omega) (by simp at hm; omega)
          (by rw [Nat.zero_add, nextslicecap_zero hpos, z3]; simp at hlen; omega)
        simpa [flat] using this
    | cons e0 r0 =>
      have hne1 : es ≠ [] := by rw [hes0]; exact fun h => by cases h
      rw [← hes0]
      obtain ⟨b1, off1, rfl, hcells1⟩ := hcell1 hne1
      have holds : ∀ (j : Nat) (u : Value), (flat es.length ie.size f)[j]? = some u → S.w.cell? ((⟨b1, off1, none⟩ : Addr).add j) = some u := by
        intro j u hj
        obtain ⟨h1, rfl⟩ := flat_of hj
        obtain ⟨d1, d2⟩ := div_lt h1
        obtain ⟨e, v, he1, hv1⟩ := cell_at es hes d1 d2
        rw [add_off]
        have := (hcells1 _ e _ v he1 hv1).2.1
        rwa [show j / ie.size * ie.size + j % ie.size = j by rw [Nat.mul_comm]; exact Nat.div_add_mod j ie.size] at this
      refine ⟨grownCap S.w (es.length + es2.length) es.length e, grownCap_ge _ _ _ _, grownCap_le_maxLen S.w _ _ _ (hmax _ hm), ?_⟩
      exact run_append_grow (P := C.P) S.w T op.type e ti z hU z1 z4 ⟨b1, off1, none⟩ es.length es.length (flat es.length ie.size f) (by rw [flat_length, z2]) holds ⟨b, off, none⟩ es2.length c2 (flat es2.length ie.size g) (by rw [flat_length, z2]) hnews
        (by omega) (by omega) (growslice_fits (by omega) (by rw [z3]; exact hlen))
  obtain ⟨gc, hcap, hcapm, hrun⟩ := hrun
  have hsize : ((flat es.length ie.size f).toArray ++ (flat es2.length ie.size g).toArray ++ Builtin.zeroCells z.cells (gc - (es.length + es2.length))).size = gc * ie.size := by
    simp only [Array.size_append, List.size_toArray, flat_length, size_zeroCells, z5, hE.zl]
    rw [← Nat.add_mul, ← Nat.add_mul]; congr 1; omega
  obtain ⟨S', hat', hmov, hβ, hO⟩ := hat.add hfree ⟨e, ie.size, false, es ++ es2⟩ ((flat es.length ie.size f).toArray ++ (flat es2.length ie.size g).toArray ++ Builtin.zeroCells z.cells (gc - (es.length + es2.length)))
    (by rw [hsize]; exact Nat.mul_le_mul_right _ (by simpa using hcap)) (fun h => by cases h) hall (fun i e j v hi hj => by
      have hjs : j < ie.size := by rw [← hall e (List.mem_of_getElem? hi)]; exact (List.getElem?_eq_some_iff.1 hj).1
      have hil : i < es.length + es2.length := by have := (List.getElem?_eq_some_iff.1 hi).1; simpa using this
      have hml := Nat.mul_le_mul_right ie.size (show i + 1 ≤ es.length + es2.length from hil)
      rw [Nat.add_mul, Nat.one_mul, Nat.add_mul] at hml
      show _ ∧ ∃ u, (_ : Array Value)[i * ie.size + j]? = some u ∧ _
      rw [Array.getElem?_append_left (by simp [flat_length]; omega), List.append_toArray, List.getElem?_toArray]
      rcases app_get (f := f) (g := g) hes hes2 hi hj with ⟨t1, t2, t3⟩ | ⟨t1, t2, t3⟩
      · rw [t3]
        obtain ⟨b1, off1, _, hcells1⟩ := hcell1 (fun h => by rw [h] at t2; simp at t2)
        obtain ⟨s1, _, s3⟩ := hcells1 i e j v t2 hj
        exact ⟨s1, _, rfl, .clo s3, fun _ => s3⟩
      · rw [t3]
        obtain ⟨s1, _, s3⟩ := hcells _ e j v t2 hj
        exact ⟨s1, _, rfl, .clo s3, fun _ => s3⟩) _ (.inl rfl)
  refine ⟨.slice (some ⟨S.w.heap.size, 0, none⟩) (es.length + es2.length) gc, _, S', .inl ?_, hat', ?_, keep_alloc hmov (.inr hat'.w)⟩
  · unfold execOp
    simp only [ho, resolve, invoke, builtin, Sem.run_bind, Sem.run_pure, Result.andThen_ok, List.map_toArray, List.map_cons, List.map_nil, hu, hu2, hrun]
  · have := Rep.osl (S := S') (.loc d) _ gc _ hO rfl (by rw [hβ, hat'.w]; exact heap_alloc_new S.w.drew _) hsize (by simpa using hcap) hcapm
    simpa [hβ] using this

/-- A slice literal's elements. -/
def abs (sz : Nat) : Nat → List (Nat × AV) → Option (List (List AV))
  | _, [] => some []
  | n, (k, v) :: r => match Nat.beq k n with
    | true => match cellsOf v with
      | some cs => match Nat.beq cs.length sz with
        | true => match cs.all cl with
          | true => match abs sz (n + 1) r with
            | some es => some (cs :: es)
            | none => none
          | false => none
        | false => none
      | none => none
    | false => none

theorem abs_rep {S : Sit} {sz : Nat} : ∀ {ps : List (Nat × AV)} {us : List (Nat × Value)} {n : Nat} {es : List (List AV)} {ucells : Array Value}, abs sz n ps = some es → us.map (·.1) = ps.map (·.1) →
      (∀ (i : Nat) (p : Nat × AV) (u : Nat × Value), ps[i]? = some p → us[i]? = some u → Rep S p.2 u.2) → (n + ps.length) * sz ≤ ucells.size →
      es.length = ps.length ∧ (∀ e ∈ es, e.length = sz) ∧ ∃ out : Array Value, Instr.fill (fun i => some (i * sz, sz)) ucells us = some out ∧ out.size = ucells.size ∧ (∀ k, k < n * sz → out[k]? = ucells[k]?) ∧
        ∀ (i : Nat) (e : List AV) (j : Nat) (v : AV), es[i]? = some e → e[j]? = some v → cl v = true ∧ ∃ u, out[(n + i) * sz + j]? = some u ∧ RepC S v u
  | [], us, n, es, ucells, h, hk, _, hs => by
    simp at hk; subst hk
    simp [abs] at h; subst h
    exact ⟨rfl, fun e he => (by cases he), ucells, rfl, rfl, fun _ _ => rfl, fun i e j v hi => by simp at hi⟩
  | (k, v) :: ps, us, n, es, ucells, h, hk, hr, hs => by
    cases us with
    | nil => simp at hk
    | cons u us =>
      obtain ⟨i0, uv⟩ := u
      simp only [List.map_cons, List.cons.injEq] at hk
      obtain ⟨rfl, hk⟩ := hk
      unfold abs at h
      split at h
      · rename_i hkn
        have hkn := Nat.eq_of_beq_eq_true hkn
        subst hkn
        split at h
        · rename_i cs hcs
          split at h
          · rename_i hb
            have hb := Nat.eq_of_beq_eq_true hb
            split at h
            · rename_i hcl
              split at h
              · rename_i es1 hes1
                cases h
                have rv : Rep S v uv := hr 0 _ _ rfl rfl
                obtain ⟨c1, c2⟩ := cellsOf_rep rv hcs
                simp only [List.length_cons] at hs
                have hml : (i0 + 1) * sz ≤ ucells.size := Nat.le_trans (Nat.mul_le_mul_right sz (by omega)) hs
                rw [Nat.add_mul, Nat.one_mul] at hml
                obtain ⟨out1, e1, e2, e3⟩ := fill_cons (place := fun i => some (i * sz, sz)) (cells := ucells) (i := i0) (v := uv) (rest := us) (off := i0 * sz) (by rw [c1, hb]) (by rw [c1, hb]; exact hml)
                obtain ⟨g1, g2, out, g3, g4, g5, g6⟩ := abs_rep (ps := ps) (us := us) (n := i0 + 1) (ucells := out1) hes1 hk (fun j p u hj hu => hr (j + 1) p u hj hu) (by rw [e2, show i0 + 1 + ps.length = i0 + (ps.length + 1) by omega]; exact hs)
                refine ⟨by simp [g1], fun e he => ?_, out, by rw [e1]; exact g3, g4.trans e2, fun k hk => ?_, fun i e j v hi hj => ?_⟩
                · rcases List.mem_cons.1 he with rfl | he
                  · exact hb
                  · exact g2 e he
                · rw [g5 k (by rw [Nat.add_mul]; omega), e3 k, if_neg (by omega)]
                · cases i with
                  | zero =>
                    simp at hi
                    subst hi
                    have hjl := (List.getElem?_eq_some_iff.1 hj).1
                    have hcv := List.all_eq_true.1 hcl v (List.mem_of_getElem? hj)
                    refine ⟨hcv, uv.cells.getD j undef, ?_, cl_repc (c2 j v hj) hcv⟩
                    rw [Nat.add_zero, g5 _ (by rw [Nat.add_mul]; omega), e3, if_pos (by omega), show i0 * sz + j - i0 * sz = j by omega]
                    have : j < uv.cells.size := by omega
                    simp [Array.getD, this]
                  | succ i =>
                    have := g6 i e j v (by simpa using hi) hj
                    rwa [show i0 + 1 + i = i0 + (i + 1) by omega] at this
              · cases h
            · cases h
          · cases h
        · cases h
      · cases h

theorem cl_d1 {v : AV} (h : cl v = true) : v.d1 = true := by
  cases v with
  | fn f a b => obtain ⟨rfl, rfl⟩ := cl_fn h; rfl
  | _ => first | rfl | cases h

theorem buildSlice_step {C : Ctx} {Γ : TTab} (hG : GOK C.P Γ) {σ : St} {op : Oper} {T e : TypeId} {n : Nat} {ps : List (Nat × Operand)} (ho : op.op = .buildSlice T n ps.toArray) {i ie : TI} (hT : look T Γ = some i) (hd : i.desc = .slice e)
    (he : look e Γ = some ie) {d : Nat} (hfree : look d σ.l = none) {vs : List (Nat × AV)} (hv : oevp σ.env ps = some vs) {es : List (List AV)} (h : abs ie.size 0 vs = some es) (hn : es.length = n) (hsm : n * ie.size ≤ 16777216) :
    Step C [] op σ (.osl (.loc d)) ⟨σ.env, (d, ⟨e, ie.size, false, es⟩) :: σ.l, σ.b, σ.O, σ.tk⟩ := by
  intro a w S hat
  have hwS := hat.w
  subst hwS
  have hU := (hG T i hT).und
  rw [hd] at hU
  have hE := hG e ie he
  obtain ⟨ti, z, z1, z2, z3, z4, z5, z6⟩ := zero_rep hE S
  obtain ⟨v1, v2⟩ := oevp_rep hat hv
  have hvl : vs.length = es.length := by
    obtain ⟨g1, _⟩ := abs_rep (S := S) (us := ps.map fun x => (x.1, a.eval x.2)) (ucells := Array.replicate ((0 + vs.length) * ie.size) undef) h v1 v2 (by simp)
    exact g1.symm
  have hmaxn : n ≤ maxLen := by
    have hp := hE.pos
    have := Nat.le_mul_of_pos_right n hp
    have : n ≤ 16777216 := by omega
    exact Nat.le_trans this (by unfold maxLen; decide)
  by_cases h0 : n = 0
  · subst h0
    have hes : es = [] := List.length_eq_zero_iff.1 hn
    subst hes
    have hvs : vs = [] := List.length_eq_zero_iff.1 hvl
    subst hvs
    have hps : ps = [] := by cases ps with
      | nil => rfl
      | cons p r => simp at v1
    subst hps
    obtain ⟨S', hat', hmov, hβ, hO⟩ := hat.add hfree ⟨e, ie.size, false, []⟩ #[] (by simp) (fun h => by cases h) (fun e he => by cases he) (fun i e j v hi => by simp at hi) _ (.inr rfl)
    refine ⟨.slice (some ⟨S.w.heap.size, 0, none⟩) 0 0, _, S', .inl ?_, hat', ?_, keep_alloc hmov (.inl hat'.w)⟩
    · unfold execOp
      simp [ho, Instr.buildSlice, run_underlying hU, sizeOf, typeInfo, z1, Instr.fill, newRow, Array.range_zero']
    · have := Rep.osl (S := S') (.loc d) _ 0 _ hO rfl (by rw [hβ, hat'.w]; exact heap_alloc_new S.w _) (by simp) (by simp) (Nat.zero_le _)
      simpa [hβ] using this
  · have hpos : 0 < n * ie.size := Nat.mul_pos (Nat.pos_of_ne_zero h0) hE.pos
    have hzs : (Array.map (fun x => z.cells[x % z.cells.size]!) (Array.range (n * ie.size))).size = n * ie.size := by simp
    obtain ⟨g1, g2, out, g3, g4, g5, g6⟩ := abs_rep (S := S) (us := ps.map fun x => (x.1, a.eval x.2)) (ucells := (Array.range (n * ie.size)).map (z.cells[· % z.cells.size]!)) h v1 v2 (by rw [hzs, hvl, hn, Nat.zero_add]; exact Nat.le_refl _)
    rw [hzs] at g4
    obtain ⟨S', hat', hmov, hβ, hO⟩ := hat.add hfree ⟨e, ie.size, false, es⟩ out (by rw [g4, hn]; exact Nat.le_refl _) (fun h => by cases h) g2 (fun i e j v hi hj => by
      obtain ⟨t1, u, t2, t3⟩ := g6 i e j v hi hj
      rw [Nat.zero_add] at t2
      exact ⟨cl_d1 t1, u, t2, .clo t3, fun _ => t3⟩) _ (.inr rfl)
    refine ⟨.slice (some ⟨S.w.heap.size, 0, none⟩) n n, _, S', .inl ?_, hat', ?_, keep_alloc hmov (.inl hat'.w)⟩
    · have hrun := run_buildSlice (P := C.P) S.w T e n (ps.toArray.map fun x => (x.1, a.eval x.2)) out ti z hU z1 z4 (by rw [z2]; omega) (by rw [z2]; omega) (by rw [z2]; simpa using g3)
      unfold execOp
      simp only [ho, Sem.run_bind, hrun, Result.andThen_ok, Sem.run_pure]
    · have := Rep.osl (S := S') (.loc d) _ n _ hO rfl (by rw [hβ, hat'.w]; exact heap_alloc_new S.w _) g4 (by rw [hn]; exact Nat.le_refl _) hmaxn
      simpa [hβ, hn] using this

end Go.Am
