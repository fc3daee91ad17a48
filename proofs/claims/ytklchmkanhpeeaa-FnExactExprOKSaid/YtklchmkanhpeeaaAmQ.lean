/- The abstract memory logic, seventeenth part: leaving a function; the rule of calls. -/
import Derived.Test.YtklchmkanhpeeaaAmP
namespace Go.Am
open Go

section
variable {C : Ctx} {σ : St} {a : Act} {w : World} {S : Sit}

theorem out_live (h : At C σ a w S) {g : Nat} (hl : (outer S (C.out σ) C.S0.hid C.S0.fz).live g) : S.live g := by
  obtain ⟨x, hx, rfl⟩ := hl
  by_cases hm : x ∈ C.bor
  · obtain ⟨k, hk⟩ := List.mem_iff_getElem?.1 hm
    obtain ⟨o, ho⟩ : ∃ o, σ.b[k]? = some o := ⟨_, List.getElem?_eq_getElem (by rw [h.bl]; exact (List.getElem?_eq_some_iff.1 hk).1)⟩
    exact ⟨.bor k, by rw [h.O]; show ((σ.b[k]?).map Obj.up).isSome = true; rw [ho]; rfl, h.bb k x hk⟩
  · refine ⟨.up x, ?_, rfl⟩
    have hx' : (OB C.bor σ.b σ.O x).isSome = true := hx
    rw [OB_not hm] at hx'
    rw [h.O]
    show (if x ∈ C.bor then none else (σ.O x).map Obj.up).isSome = true
    rw [if_neg hm]
    cases hq : σ.O x with
    | none => rw [hq] at hx'; cases hx'
    | some _ => rfl

theorem out_le (h : At C σ a w S) : Le S (outer S (C.out σ) C.S0.hid C.S0.fz) := ⟨Nat.le_refl _, rfl, rfl, rfl, rfl, Nat.le_refl _, fun _ _ => rfl, fun _ hg => ⟨⟨hg.1, fun hl => hg.2 (out_live h hl)⟩, rfl⟩⟩

theorem up_obj (h : At C σ a w S) {x : ID} {o' : Obj} (ho : S.O (.up x) = some o') : x ∉ C.bor ∧ ∃ p, σ.O x = some p ∧ o' = p.up ∧ (outer S (C.out σ) C.S0.hid C.S0.fz).O x = some p := by
  rw [h.O] at ho
  have ho' : (if x ∈ C.bor then none else (σ.O x).map Obj.up) = some o' := ho
  split at ho'
  · cases ho'
  · rename_i hx
    obtain ⟨p, hp, rfl⟩ := Option.map_eq_some_iff.1 ho'
    exact ⟨hx, p, hp, rfl, by show OB C.bor σ.b σ.O x = _; rw [OB_not hx]; exact hp⟩

theorem optr_out (h : At C σ a w S) {x : ID} {i off : Nat} {u : Value} (hr : Rep S (.optr (.up x) i off) u) : Rep (outer S (C.out σ) C.S0.hid C.S0.fz) (.optr x i off) u := by
  cases hr with
  | clo h => cases h
  | optr _ _ _ o' ho =>
    obtain ⟨_, p, _, rfl, hp⟩ := up_obj h ho
    exact .optr (S := outer S (C.out σ) C.S0.hid C.S0.fz) x i off p hp
  | hidp _ _ _ sz hh =>
    rcases h.hu x sz hh with ⟨_, o0, h0, rfl⟩ | h0
    · obtain ⟨o', q1, _, q3, _⟩ := h.ext.obj x o0 h0
      rw [← q3]
      exact .optr (S := outer S (C.out σ) C.S0.hid C.S0.fz) x i off o' q1
    · exact .hidp (S := outer S (C.out σ) C.S0.hid C.S0.fz) x i off sz h0

theorem c0_out (h : At C σ a w S) {v : AV} {u : Value} (hr : Rep S v.up0 u) (hc : v.c0 = true) : Rep (outer S (C.out σ) C.S0.hid C.S0.fz) v u := by
  cases v with
  | optr x i off => exact optr_out h hr
  | int k n => exact .clo ((cl_repc hr rfl).le (out_le h))
  | bool b' => exact .clo ((cl_repc hr rfl).le (out_le h))
  | str s => exact .clo ((cl_repc hr rfl).le (out_le h))
  | nilp => exact .clo ((cl_repc hr rfl).le (out_le h))
  | imm a c d e => exact .clo ((cl_repc hr rfl).le (out_le h))
  | nilfn => exact .clo ((cl_repc hr rfl).le (out_le h))
  | nilif => exact .clo ((cl_repc hr rfl).le (out_le h))
  | any => cases hc
  | jnk => cases hc
  | cptr cs => cases hc
  | osl x => cases hc
  | fn f a b' => cases hc
  | iface t v => cases hc
  | agg cs => cases hc
  | tup cs => cases hc

theorem d1_of_up {v : AV} (h : v.up.d1 = true) : v.d1 = true := by
  cases v with
  | fn f x y =>
    have key : ∀ l : List AV, allc0 (l.map AV.up0) = true → allc0 l = true := by
      intro l
      induction l with
      | nil => intro _; rfl
      | cons v r ih =>
        intro h
        simp only [List.map_cons, allc0] at h ⊢
        cases v <;> simp_all [AV.up0, AV.c0]
    obtain ⟨h1, h2⟩ := fn_c0 (f := f) (a := x.map AV.up0) (b := y.map AV.up0) h
    simp [AV.d1, key x h1, key y h2]
  | _ => first | rfl | cases h

theorem down_out (h : At C σ a w S) {v : AV} {u : Value} (hr : Rep S v.up u) (hd : v.d1 = true) : Rep (outer S (C.out σ) C.S0.hid C.S0.fz) v u := by
  cases v with
  | optr x i off => exact optr_out h hr
  | osl x =>
    cases hr with
    | clo h => cases h
    | osl _ o' c cur ho hbx hw hc hl hm =>
      obtain ⟨_, p, _, rfl, hp⟩ := up_obj h ho
      have := Rep.osl (S := outer S (C.out σ) C.S0.hid C.S0.fz) x p c cur hp hbx hw hc (by simpa [Obj.up] using hl) hm
      rw [show p.up.es.length = p.es.length by simp [Obj.up]]
      exact this
  | fn f x y =>
    obtain ⟨hx, hy⟩ := fn_c0 hd
    have key : ∀ (l : List AV) (us : Array Value), allc0 l = true → us.size = (l.map AV.up0).length → (∀ j z, (l.map AV.up0)[j]? = some z → Rep S z (us.getD j undef)) →
        us.size = l.length ∧ ∀ j z, l[j]? = some z → Rep (outer S (C.out σ) C.S0.hid C.S0.fz) z (us.getD j undef) := by
      intro l us q1 q2 q3
      exact ⟨by simpa using q2, fun j z hj => c0_out h (q3 j z.up0 (by rw [List.getElem?_map, hj]; rfl)) (allc0_at q1 j z hj)⟩
    cases hr with
    | clo hr =>
      cases hr with
      | fn _ _ _ us1 us2 l1 l2 h1 h2 =>
        obtain ⟨r1, r2⟩ := key x us1 hx l1 (fun j z hj => .clo (h1 j z hj))
        obtain ⟨r3, r4⟩ := key y us2 hy l2 (fun j z hj => .clo (h2 j z hj))
        exact .fn _ _ _ us1 us2 r1 r3 r2 r4
    | fn _ _ _ us1 us2 l1 l2 h1 h2 =>
      obtain ⟨r1, r2⟩ := key x us1 hx l1 h1
      obtain ⟨r3, r4⟩ := key y us2 hy l2 h2
      exact .fn _ _ _ us1 us2 r1 r3 r2 r4
  | jnk =>
    cases hr with
    | clo h => cases h
    | jnk _ h => exact .jnk _ h
  | cptr cs => exact .clo ((rep_cptr hr).le (out_le h))
  | int k n => exact .clo ((cl_repc hr rfl).le (out_le h))
  | bool b' => exact .clo ((cl_repc hr rfl).le (out_le h))
  | str s => exact .clo ((cl_repc hr rfl).le (out_le h))
  | nilp => exact .clo ((cl_repc hr rfl).le (out_le h))
  | imm a c d e => exact .clo ((cl_repc hr rfl).le (out_le h))
  | nilfn => exact .clo ((cl_repc hr rfl).le (out_le h))
  | nilif => exact .clo ((cl_repc hr rfl).le (out_le h))
  | any => cases hd
  | iface t v => cases hd
  | agg cs => cases hd
  | tup cs => cases hd

/-- A value without the caller's names among what it holds: closed there and here. -/
theorem repc_down {v : AV} {u : Value} {S S' : Sit} (hle : Le S S') (h : RepC S v.up u) : RepC S' v u := by
  have : v.up = v := by
    cases v with
    | optr x i o => cases h
    | osl x => cases h
    | fn f x y =>
      cases h with
      | fn _ _ _ us1 us2 l1 l2 h1 h2 =>
        have key : ∀ (l : List AV) (us : Array Value), (∀ j z, (l.map AV.up0)[j]? = some z → RepC S z (us.getD j undef)) → l.map AV.up0 = l := by
          intro l us q
          apply List.ext_getElem?
          intro n
          rw [List.getElem?_map]
          cases hn : l[n]? with
          | none => rfl
          | some y =>
            have := q n y.up0 (by rw [List.getElem?_map, hn]; rfl)
            cases y with
            | optr x i o => cases this
            | _ => rfl
        show AV.fn f (x.map AV.up0) (y.map AV.up0) = _
        rw [key x us1 h1, key y us2 h2]
    | _ => rfl
  rw [this] at h
  exact h.le hle

theorem out_sim (h : At C σ a w S) : SimH (outer S (C.out σ) C.S0.hid C.S0.fz) := by
  have names : ∀ x o, (outer S (C.out σ) C.S0.hid C.S0.fz).O x = some o → ∃ z, S.O z = some o.up ∧ S.β z = (outer S (C.out σ) C.S0.hid C.S0.fz).β x ∧ ((∃ k, z = .bor k ∧ C.bor[k]? = some x) ∨ z = .up x ∧ x ∉ C.bor) := by
    intro x o hx
    have hx' : OB C.bor σ.b σ.O x = some o := hx
    by_cases hm : x ∈ C.bor
    · obtain ⟨k, hk⟩ := List.mem_iff_getElem?.1 hm
      obtain ⟨p, hp⟩ : ∃ p, σ.b[k]? = some p := ⟨_, List.getElem?_eq_getElem (by rw [h.bl]; exact (List.getElem?_eq_some_iff.1 hk).1)⟩
      rw [OB_get h.nd h.bl hk hp] at hx'
      cases hx'
      exact ⟨.bor k, by rw [h.O]; show (σ.b[k]?).map Obj.up = _; rw [hp]; rfl, h.bb k x hk, .inl ⟨k, rfl, hk⟩⟩
    · rw [OB_not hm] at hx'
      exact ⟨.up x, by rw [h.O]; show (if x ∈ C.bor then none else (σ.O x).map Obj.up) = _; rw [if_neg hm, hx']; rfl, rfl, .inr ⟨rfl, hm⟩⟩
  refine ⟨fun x o hx => ?_, fun x y hx hy hxy => ?_, fun x hx => ?_, fun t h1 h2 => ?_, h.sim.tinj, h.sim.b0, fun x sz hx => ?_, h.sim.tk2⟩
  · obtain ⟨z, z1, z2, _⟩ := names x o hx
    obtain ⟨cur, q1, q2, q3, q4, q5⟩ := h.sim.obj z o.up z1
    rw [z2] at q1
    refine ⟨cur, q1, by simpa [Obj.up] using q2, by simpa [Obj.up] using q3, fun e he => ?_, fun i e j v hi hj => ?_⟩
    · have := q4 (e.map AV.up) (by simp only [Obj.up, List.mem_map]; exact ⟨e, he, rfl⟩)
      simpa [Obj.up] using this
    · obtain ⟨s1, u, s2, s3, s4⟩ := q5 i (e.map AV.up) j v.up (by simp [Obj.up, hi]) (by simp [hj])
      have hd := d1_of_up s1
      exact ⟨hd, u, s2, down_out h s3 hd, fun hb => repc_down (out_le h) (s4 hb)⟩
  · obtain ⟨o, ho⟩ := Option.isSome_iff_exists.1 hx
    obtain ⟨p, hp⟩ := Option.isSome_iff_exists.1 hy
    obtain ⟨z, z1, z2, z3⟩ := names x o ho
    obtain ⟨z', z1', z2', z3'⟩ := names y p hp
    have : z = z' := h.sim.inj z z' (by rw [z1]; rfl) (by rw [z1']; rfl) (by rw [z2, z2', hxy])
    subst this
    rcases z3 with ⟨k, rfl, hk⟩ | ⟨rfl, hz⟩ <;> rcases z3' with ⟨k', hkk, hk'⟩ | ⟨hkk, hz'⟩
    · cases hkk; rw [hk] at hk'; cases hk'; rfl
    · cases hkk
    · cases hkk
    · cases hkk; rfl
  · obtain ⟨o, ho⟩ := Option.isSome_iff_exists.1 hx
    obtain ⟨z, z1, z2, _⟩ := names x o ho
    rw [← z2]
    exact h.sim.base z (by rw [z1]; rfl)
  · obtain ⟨s1, s2, s3⟩ := h.sim.tok t h1 h2
    exact ⟨s1, fun hl => s2 (out_live h hl), s3⟩
  · exact h.ext.non x (h.h0.hid x sz hx)

end

/-! ### A whole function -/

inductive EntEnv (bor : List ID) : Nat → List AV → List (Nat × AV) → Prop
  | nil (n) : EntEnv bor n [] []
  | cons {n v v' vs env} (h : Ent bor v v') (t : EntEnv bor (n + 1) vs env) : EntEnv bor n (v :: vs) ((n, v') :: env)

theorem EntEnv.get {bor : List ID} : ∀ {n : Nat} {vs : List AV} {env : List (Nat × AV)}, EntEnv bor n vs env → ∀ (i : Nat) (v' : AV), look i env = some v' → ∃ j v, i = n + j ∧ vs[j]? = some v ∧ Ent bor v v'
  | _, _, _, .nil n, i, v', h => by simp [look] at h
  | _, _, _, .cons (n := n) (v := v) (v' := w) h t, i, v', hl => by
    unfold look at hl
    split at hl
    · rename_i hb
      cases hl
      exact ⟨0, v, by rw [Nat.eq_of_beq_eq_true hb]; omega, rfl, h⟩
    · obtain ⟨j, x, rfl, hx, he⟩ := t.get i v' hl
      exact ⟨j + 1, x, by omega, hx, he⟩

/-- The results, read where the function is left. -/
def Results (C : Ctx) (fn : Func) (R : Out → Heap → Nat → Prop) (σ : St) : Prop :=
  ∀ a w S, At C σ a w S → ∃ u w' S' σ' out, (results fn a.tmps).run C.P w = .ok u w ∧ w' = w ∧ At C σ' a w S' ∧ RepOut C.S0 (outer S' (C.out σ') C.S0.hid C.S0.fz) out (.returned u) ∧ R out (C.out σ') σ'.tk

def Fin (C : Ctx) (fn : Func) (R : Out → Heap → Nat → Prop) : AEx → St → Prop
  | .normal, σ => Results C fn R σ
  | .ret, σ => Results C fn R σ
  | .pan v, σ => R (.pan v) (C.out σ) σ.tk
  | .exit _, _ => False

theorem acalls_of_run {P : Program} {f : FuncId} {fn : Func} {c : Code} (hf : P.funcs[f]? = some fn) (hn : (fn.name == "runtime.NumGoroutine") = false) (hb : fn.body = some c) {args : List AV} {O : Heap} {tk : Nat} {R : Out → Heap → Nat → Prop}
    (bor : List ID) (b : List Obj) (hbor : Bor O bor b) (env : List (Nat × AV)) (henv : EntEnv bor 0 args env) (hlen : args.length ≤ fn.ntmps) (hbt : ∀ x ∈ bor, x ∈ tch args)
    (h : ∀ S0 : Sit, S0.O = O → S0.tk = tk → (∀ x ∈ tch args, S0.fz x = false) → Run ⟨P, S0, fn.ntmps, bor⟩ (Fin ⟨P, S0, fn.ntmps, bor⟩ fn R) [.code c] .normal ⟨env, [], b, O, tk⟩) : ACalls P f args O tk R := by
  refine ⟨⟨fn, c, hf, hn, hb⟩, fun S us hO htk hs hfz hus harg => ?_⟩
  subst hO
  subst htk
  let C : Ctx := ⟨P, S, fn.ntmps, bor⟩
  have hOB : OB bor b S.O = S.O := by
    funext x
    by_cases hx : x ∈ bor
    · obtain ⟨k, hk⟩ := List.mem_iff_getElem?.1 hx
      obtain ⟨o, h1, h2, _⟩ := hbor.at_ k x hk
      rw [OB_get hbor.nd hbor.len hk h1, h2]
    · exact OB_not hx
  have hat : At C ⟨env, [], b, S.O, S.tk⟩ { tmps := us ++ Array.replicate (fn.ntmps - us.size) undef, defers := [] } S.w (inner S bor b) := by
    refine ⟨rfl, rfl, rfl, inner_sim hs hbor, fun i v' hv' => ?_, (by show (us ++ Array.replicate (fn.ntmps - us.size) undef).size = fn.ntmps; simp; omega), rfl, ?_, fun i hi => by simp [look] at hi, hbor.len, hbor.nd, fun i x hx => ?_, hs, fun i => rfl, fun x sz hx => ?_, fun x hx => ?_, fun x hx => hfz x (hbt x hx)⟩
    · obtain ⟨j, v, hj, hv, he⟩ := henv.get i v' hv'
      rw [Nat.zero_add] at hj
      subst hj
      have hlt : i < us.size := by rw [hus]; exact (List.getElem?_eq_some_iff.1 hv).1
      refine ⟨us.getD i undef, ?_, ent_in hs hbor he (.inl (harg i v hv))⟩
      rw [Array.getElem?_append_left hlt]
      simp [Array.getD, hlt]
    · have : outer (inner S bor b) (C.out ⟨env, [], b, S.O, S.tk⟩) C.S0.hid C.S0.fz = S := by
        show outer (inner S bor b) (OB bor b S.O) S.hid S.fz = S
        rw [hOB]
        rfl
      rw [this]
      exact Ext.refl S
    · show (inner S bor b).β (.bor i) = S.β x
      have hx' : bor[i]? = some x := hx
      simp [inner, hx']
    · have hx' : (if x ∈ bor then (S.O x).map (·.sz) else S.hid x) = some sz := hx
      split at hx'
      · rename_i hm
        obtain ⟨o, ho, rfl⟩ := Option.map_eq_some_iff.1 hx'
        exact .inl ⟨hm, o, ho, rfl⟩
      · exact .inr hx'
    · show (if x ∈ bor then (S.O x).map (·.sz) else S.hid x).isSome = true
      by_cases hm : x ∈ bor
      · rw [if_pos hm]
        obtain ⟨k, hk⟩ := List.mem_iff_getElem?.1 hm
        obtain ⟨o, _, ho, _⟩ := hbor.at_ k x hk
        rw [ho]; rfl
      · rw [if_neg hm]
        exact hx.resolve_left hm
  refine calls_of_wp hf hb (Code.wp_mono ?_ (h S rfl rfl hfz _ _ _ hat))
  intro e a' w' hq
  have fin : ∀ S1 σ1, At C σ1 a' w' S1 → Results C fn R σ1 → a'.defers = [] ∧ ∃ v, (results fn a'.tmps).run P w' = .ok v w' ∧ ∃ out S', S'.w = w' ∧ SimH S' ∧ Ext S S' ∧ RepOut S S' out (.returned v) ∧ R out S'.O S'.tk := by
    intro S1 σ1 hat1 hR
    obtain ⟨u, w2, S2, σ2, out, r1, r2, r3, r4, r5⟩ := hR a' w' S1 hat1
    exact ⟨hat1.defers, u, r1, out, outer S2 (C.out σ2) C.S0.hid C.S0.fz, r3.w, out_sim r3, r3.ext, r4, by rw [show (outer S2 (C.out σ2) C.S0.hid C.S0.fz).tk = σ2.tk from r3.tk]; exact r5⟩
  cases e with
  | normal => obtain ⟨S1, σ1, hat1, hR⟩ := hq; exact fin S1 σ1 hat1 hR
  | ret => obtain ⟨S1, σ1, hat1, hR⟩ := hq; exact fin S1 σ1 hat1 hR
  | exit id => obtain ⟨S1, σ1, hat1, hR⟩ := hq; exact hR.elim
  | panic ch =>
    obtain ⟨S1, σ1, v, u, _, hat1, rfl, hr, hR⟩ := hq
    exact ⟨hat1.defers, .pan v, outer S1 (C.out σ1) C.S0.hid C.S0.fz, hat1.w, out_sim hat1, hat1.ext, ⟨u, rfl, hr.le (out_le hat1)⟩, by rw [show (outer S1 (C.out σ1) C.S0.hid C.S0.fz).tk = σ1.tk from hat1.tk]; exact hR⟩
  | goto l => exact hq
  | outgrown => exact hq.elim

end Go.Am
