/- The abstract memory logic and its tools: several texts in one. -/
import Derived.Conc.MuLone
import Derived.OrdersHeld
import Derived.Laws.MakeOwn
import Derived.IntWalk
import Derived.Laws.Slices
import Derived.Laws.Small
import Derived.Test.YtoajlhhalpldfaaGreatDoorAm2

/- The abstract memory logic, seventeenth part: leaving a function; the rule of calls. -/
namespace Go.Am
open Go

section
variable {C : Ctx} {σ : St} {a : Act} {w : World} {S : Sit}

theorem out_live (h : At C σ a w S) {g : Nat} (hl : (outer S (C.out σ) C.S0.hid C.S0.fz).live g) : S.live g := by
 obtain ⟨x, hx, rfl⟩ := hl
 by_cases hm : x ∈ C.bor
 ·obtain ⟨k, hk⟩ := List.mem_iff_getElem?.1 hm
  obtain ⟨o, ho⟩ : ∃ o, σ.b[k]? = some o := ⟨_, List.getElem?_eq_getElem (by rw [h.bl]; exact (List.getElem?_eq_some_iff.1 hk).1)⟩
  exact ⟨.bor k, by rw [h.O]; show ((σ.b[k]?).map Obj.up).isSome = true; rw [ho]; rfl, h.bb k x hk⟩
 refine ⟨.up x, ?_, rfl⟩
 have hx' : (OB C.bor σ.b σ.O x).isSome = true := hx
 rw [OB_not hm] at hx'
 rw [h.O]
 show (if x ∈ C.bor then none else (σ.O x).map Obj.up).isSome = true
 rw [if_neg hm]
 cases hq : σ.O x with
 | none => rw [hq] at hx'; cases hx'
 | some _ => rfl

theorem out_le (h : At C σ a w S) : Le S (outer S (C.out σ) C.S0.hid C.S0.fz) := ⟨Nat.le_refl _, rfl, rfl, rfl, rfl, Nat.le_refl _, fun _ _ => rfl, fun _ hg => ⟨⟨hg.1, fun hl => hg.2 (out_live h hl)⟩, rfl⟩⟩

theorem up_obj (h : At C σ a w S) {x : ID} {o' : Obj} (ho : S.O (.up x) = some o') : x ∉ C.bor ∧ ∃ p, σ.O x = some p ∧ o' = p.up ∧ (outer S (C.out σ) C.S0.hid C.S0.fz).O x = some p := by
 rw [h.O] at ho
 have ho' : (if x ∈ C.bor then none else (σ.O x).map Obj.up) = some o' := ho
 split at ho'
 ·cases ho'
 rename_i hx
 obtain ⟨p, hp, rfl⟩ := Option.map_eq_some_iff.1 ho'
 exact ⟨hx, p, hp, rfl, by show OB C.bor σ.b σ.O x = _; rw [OB_not hx]; exact hp⟩

theorem optr_out (h : At C σ a w S) {x : ID} {i off : Nat} {u : Value} (hr : Rep S (.optr (.up x) i off) u) : Rep (outer S (C.out σ) C.S0.hid C.S0.fz) (.optr x i off) u := by
 cases hr with
 | clo h => cases h
 | optr _ _ _ o' ho =>
  obtain ⟨_, p, _, rfl, hp⟩ := up_obj h ho
  exact .optr (S := outer S (C.out σ) C.S0.hid C.S0.fz) x i off p hp
 | hidp _ _ _ sz hh =>
  rcases h.hu x sz hh with ⟨_, o0, h0, rfl⟩ | h0
  ·obtain ⟨o', q1, _, q3, _⟩ := h.ext.obj0 x o0 h0
   rw [← q3]
   exact .optr (S := outer S (C.out σ) C.S0.hid C.S0.fz) x i off o' q1
  exact .hidp (S := outer S (C.out σ) C.S0.hid C.S0.fz) x i off sz h0

theorem c0_out (h : At C σ a w S) {v : AV} {u : Value} (hr : Rep S v.up0 u) (hc : v.c0 = true) : Rep (outer S (C.out σ) C.S0.hid C.S0.fz) v u := by
 cases v with
 | optr x i off => exact optr_out h hr
 | int k n => exact .clo ((cl_repc hr rfl).le (out_le h))
 | bool b' => exact .clo ((cl_repc hr rfl).le (out_le h))
 | str s => exact .clo ((cl_repc hr rfl).le (out_le h))
 | nilp => exact .clo ((cl_repc hr rfl).le (out_le h))
 | imm a c d e => exact .clo ((cl_repc hr rfl).le (out_le h))
 | nilfn => exact .clo ((cl_repc hr rfl).le (out_le h))
 | nilif => exact .clo ((cl_repc hr rfl).le (out_le h))
 | any => cases hc
 | jnk => cases hc
 | cptr cs => exact .clo ((rep_cptr hr).le (out_le h))
 | osl x => cases hc
 | fn f a b' => cases hc
 | iface t v => cases hc
 | agg cs => cases hc
 | tup cs => cases hc

theorem d1_of_up {v : AV} (h : v.up.d1 = true) : v.d1 = true := by
 cases v with
 | fn f x y =>
  have key : ∀ l : List AV, allc0 (l.map AV.up0) = true → allc0 l = true := by
   intro l
   induction l with
   | nil => intro _; rfl
   | cons v r ih =>
    intro h
    simp only [List.map_cons, allc0] at h ⊢
    cases v <;> simp_all [AV.up0, AV.c0]
  obtain ⟨h1, h2⟩ := fn_c0 (f := f) (a := x.map AV.up0) (b := y.map AV.up0) h
  simp [AV.d1, key x h1, key y h2]
 | _ => first | rfl | cases h

theorem down_out (h : At C σ a w S) {v : AV} {u : Value} (hr : Rep S v.up u) (hd : v.d1 = true) : Rep (outer S (C.out σ) C.S0.hid C.S0.fz) v u := by
 cases v with
 | optr x i off => exact optr_out h hr
 | osl x =>
  cases hr with
  | clo h => cases h
  | osl _ o' c cur ho hbx hw hc hl hm =>
   obtain ⟨_, p, _, rfl, hp⟩ := up_obj h ho
   have := Rep.osl (S := outer S (C.out σ) C.S0.hid C.S0.fz) x p c cur hp hbx hw hc (by simpa [Obj.up] using hl) hm
   rw [show p.up.es.length = p.es.length by simp [Obj.up]]
   exact this
 | fn f x y =>
  obtain ⟨hx, hy⟩ := fn_c0 hd
  have key : ∀ (l : List AV) (us : Array Value), allc0 l = true → us.size = (l.map AV.up0).length → (∀ j z, (l.map AV.up0)[j]? = some z → Rep S z (us.getD j undef)) →
    us.size = l.length ∧ ∀ j z, l[j]? = some z → Rep (outer S (C.out σ) C.S0.hid C.S0.fz) z (us.getD j undef) := by
   intro l us q1 q2 q3
   exact ⟨by simpa using q2, fun j z hj => c0_out h (q3 j z.up0 (by rw [List.getElem?_map, hj]; rfl)) (allc0_at q1 j z hj)⟩
  cases hr with
  | clo hr =>
   cases hr with
   | fn _ _ _ us1 us2 l1 l2 h1 h2 =>
    obtain ⟨r1, r2⟩ := key x us1 hx l1 (fun j z hj => .clo (h1 j z hj))
    obtain ⟨r3, r4⟩ := key y us2 hy l2 (fun j z hj => .clo (h2 j z hj))
    exact .fn _ _ _ us1 us2 r1 r3 r2 r4
  | fn _ _ _ us1 us2 l1 l2 h1 h2 =>
   obtain ⟨r1, r2⟩ := key x us1 hx l1 h1
   obtain ⟨r3, r4⟩ := key y us2 hy l2 h2
   exact .fn _ _ _ us1 us2 r1 r3 r2 r4
 | jnk =>
  cases hr with
  | clo h => cases h
  | jnk _ h => exact .jnk _ h
 | cptr cs => exact .clo ((rep_cptr hr).le (out_le h))
 | int k n => exact .clo ((cl_repc hr rfl).le (out_le h))
 | bool b' => exact .clo ((cl_repc hr rfl).le (out_le h))
 | str s => exact .clo ((cl_repc hr rfl).le (out_le h))
 | nilp => exact .clo ((cl_repc hr rfl).le (out_le h))
 | imm a c d e => exact .clo ((cl_repc hr rfl).le (out_le h))
 | nilfn => exact .clo ((cl_repc hr rfl).le (out_le h))
 | nilif => exact .clo ((cl_repc hr rfl).le (out_le h))
 | any => cases hd
 | iface t v => cases hd
 | agg cs => cases hd
 | tup cs => cases hd

theorem repc_down {v : AV} {u : Value} {S S' : Sit} (hle : Le S S') (h : RepC S v.up u) : RepC S' v u := by
 have : v.up = v := by
  cases v with
  | optr x i o => cases h
  | osl x => cases h
  | fn f x y =>
   cases h with
   | fn _ _ _ us1 us2 l1 l2 h1 h2 =>
    have key : ∀ (l : List AV) (us : Array Value), (∀ j z, (l.map AV.up0)[j]? = some z → RepC S z (us.getD j undef)) → l.map AV.up0 = l := by
     intro l us q
     apply List.ext_getElem?
     intro n
     rw [List.getElem?_map]
     cases hn : l[n]? with
     | none => rfl
     | some y =>
      have := q n y.up0 (by rw [List.getElem?_map, hn]; rfl)
      cases y with
      | optr x i o => cases this
      | _ => rfl
    show AV.fn f (x.map AV.up0) (y.map AV.up0) = _
    rw [key x us1 h1, key y us2 h2]
  | _ => rfl
 rw [this] at h
 exact h.le hle

theorem out_sim (h : At C σ a w S) : SimH (outer S (C.out σ) C.S0.hid C.S0.fz) := by
 have names : ∀ x o, (outer S (C.out σ) C.S0.hid C.S0.fz).O x = some o → ∃ z, S.O z = some o.up ∧ S.β z = (outer S (C.out σ) C.S0.hid C.S0.fz).β x ∧ ((∃ k, z = .bor k ∧ C.bor[k]? = some x) ∨ z = .up x ∧ x ∉ C.bor) := by
  intro x o hx
  have hx' : OB C.bor σ.b σ.O x = some o := hx
  by_cases hm : x ∈ C.bor
  ·obtain ⟨k, hk⟩ := List.mem_iff_getElem?.1 hm
   obtain ⟨p, hp⟩ : ∃ p, σ.b[k]? = some p := ⟨_, List.getElem?_eq_getElem (by rw [h.bl]; exact (List.getElem?_eq_some_iff.1 hk).1)⟩
   rw [OB_get h.nd h.bl hk hp] at hx'
   cases hx'
   exact ⟨.bor k, by rw [h.O]; show (σ.b[k]?).map Obj.up = _; rw [hp]; rfl, h.bb k x hk, .inl ⟨k, rfl, hk⟩⟩
  rw [OB_not hm] at hx'
  exact ⟨.up x, by rw [h.O]; show (if x ∈ C.bor then none else (σ.O x).map Obj.up) = _; rw [if_neg hm, hx']; rfl, rfl, .inr ⟨rfl, hm⟩⟩
 refine ⟨fun x o hx => ?_, fun x y hx hy hxy => ?_, fun x hx => ?_, fun t h1 h2 => ?_, h.sim.tinj, h.sim.b0, fun x sz hx => ?_, h.sim.tk2⟩
 ·obtain ⟨z, z1, z2, _⟩ := names x o hx
  obtain ⟨cur, q1, q2, q3, q4, q5⟩ := h.sim.obj z o.up z1
  rw [z2] at q1
  refine ⟨cur, q1, by simpa [Obj.up] using q2, by simpa [Obj.up] using q3, fun e he => ?_, fun i e j v hi hj => ?_⟩
  ·have := q4 (e.map AV.up) (by simp only [Obj.up, List.mem_map]; exact ⟨e, he, rfl⟩)
   simpa [Obj.up] using this
  obtain ⟨s1, u, s2, s3, s4⟩ := q5 i (e.map AV.up) j v.up (by simp [Obj.up, hi]) (by simp [hj])
  have hd := d1_of_up s1
  exact ⟨hd, u, s2, down_out h s3 hd, fun hb => repc_down (out_le h) (s4 hb)⟩
 ·obtain ⟨o, ho⟩ := Option.isSome_iff_exists.1 hx
  obtain ⟨p, hp⟩ := Option.isSome_iff_exists.1 hy
  obtain ⟨z, z1, z2, z3⟩ := names x o ho
  obtain ⟨z', z1', z2', z3'⟩ := names y p hp
  have : z = z' := h.sim.inj z z' (by rw [z1]; rfl) (by rw [z1']; rfl) (by rw [z2, z2', hxy])
  subst this
  rcases z3 with ⟨k, rfl, hk⟩ | ⟨rfl, hz⟩ <;> rcases z3' with ⟨k', hkk, hk'⟩ | ⟨hkk, hz'⟩
  ·cases hkk; rw [hk] at hk'; cases hk'; rfl
  ·cases hkk
  ·cases hkk
  cases hkk; rfl
 ·obtain ⟨o, ho⟩ := Option.isSome_iff_exists.1 hx
  obtain ⟨z, z1, z2, _⟩ := names x o ho
  rw [← z2]
  exact h.sim.base z (by rw [z1]; rfl)
 ·obtain ⟨s1, s2, s3⟩ := h.sim.tok t h1 h2
  exact ⟨s1, fun hl => s2 (out_live h hl), s3⟩
 exact h.ext.non x (h.h0.hid x sz hx)

end


inductive EntEnv (bor : List ID) : Nat → List AV → List (Nat × AV) → Prop
 | nil (n) : EntEnv bor n [] []
 | cons {n v v' vs env} (h : Ent bor v v') (t : EntEnv bor (n + 1) vs env) : EntEnv bor n (v :: vs) ((n, v') :: env)

theorem EntEnv.get {bor : List ID} : ∀ {n : Nat} {vs : List AV} {env : List (Nat × AV)}, EntEnv bor n vs env → ∀ (i : Nat) (v' : AV), look i env = some v' → ∃ j v, i = n + j ∧ vs[j]? = some v ∧ Ent bor v v'
 | _, _, _, .nil n, i, v', h => by simp [look] at h
 | _, _, _, .cons (n := n) (v := v) (v' := w) h t, i, v', hl => by
  unfold look at hl
  split at hl
  ·rename_i hb
   cases hl
   exact ⟨0, v, by rw [Nat.eq_of_beq_eq_true hb]; omega, rfl, h⟩
  obtain ⟨j, x, rfl, hx, he⟩ := t.get i v' hl
  exact ⟨j + 1, x, by omega, hx, he⟩

def Results (C : Ctx) (fn : Func) (R : Out → Heap → Nat → Prop) (σ : St) : Prop :=
 ∀ a w S, At C σ a w S → ∃ u w' S' σ' out, (results fn a.tmps).run C.P w = .ok u w ∧ w' = w ∧ At C σ' a w S' ∧ RepOut C.S0 (outer S' (C.out σ') C.S0.hid C.S0.fz) out (.returned u) ∧ R out (C.out σ') σ'.tk

def Fin (C : Ctx) (fn : Func) (R : Out → Heap → Nat → Prop) : AEx → St → Prop
 | .normal, σ => Results C fn R σ
 | .ret, σ => Results C fn R σ
 | .pan v, σ => R (.pan v) (C.out σ) σ.tk
 | .exit _, _ => False

theorem acalls_of_run {P : Program} {f : FuncId} {fn : Func} {c : Code} (hf : P.funcs[f]? = some fn) (hn : (fn.name == "runtime.NumGoroutine") = false) (hb : fn.body = some c) {args : List AV} {O : Heap} {tk : Nat} {R : Out → Heap → Nat → Prop}
  (bor : List ID) (b : List Obj) (hbor : Bor O bor b) (env : List (Nat × AV)) (henv : EntEnv bor 0 args env) (hlen : args.length ≤ fn.ntmps) (hbt : ∀ x ∈ bor, x ∈ tch args)
  (h : ∀ S0 : Sit, S0.O = O → S0.tk = tk → (∀ x ∈ tch args, S0.fz x = false) → Run ⟨P, S0, fn.ntmps, bor, fun _ => False, []⟩ (Fin ⟨P, S0, fn.ntmps, bor, fun _ => False, []⟩ fn R) [.code c] .normal ⟨env, [], b, O, tk⟩) : ACalls P f args O tk R := by
 refine ⟨⟨fn, c, hf, hn, hb⟩, fun S us hO htk hs hinv hfz hus harg => ?_⟩
 subst hO
 subst htk
 let C : Ctx := ⟨P, S, fn.ntmps, bor, fun _ => False, []⟩
 have hOB : OB bor b S.O = S.O := by
  funext x
  by_cases hx : x ∈ bor
  ·obtain ⟨k, hk⟩ := List.mem_iff_getElem?.1 hx
   obtain ⟨o, h1, h2, _⟩ := hbor.at_ k x hk
   rw [OB_get hbor.nd hbor.len hk h1, h2]
  exact OB_not hx
 have hat : At C ⟨env, [], b, S.O, S.tk⟩ { tmps := us ++ Array.replicate (fn.ntmps - us.size) undef, defers := [] } S.w (inner S bor b) := by
  refine ⟨rfl, rfl, rfl, inner_sim hs hbor, fun i v' hv' => ?_, (by show (us ++ Array.replicate (fn.ntmps - us.size) undef).size = fn.ntmps; simp; omega), rfl, ?_, fun i hi => by simp [look] at hi, hbor.len, hbor.nd, fun i x hx => ?_, hs, fun i => rfl, fun x sz hx => ?_, fun x hx => ?_, fun x hx => hfz x (hbt x hx), hinv⟩
  ·obtain ⟨j, v, hj, hv, he⟩ := henv.get i v' hv'
   rw [Nat.zero_add] at hj
   subst hj
   have hlt : i < us.size := by rw [hus]; exact (List.getElem?_eq_some_iff.1 hv).1
   refine ⟨us.getD i undef, ?_, ent_in hs hbor he (.inl (harg i v hv))⟩
   rw [Array.getElem?_append_left hlt]
   simp [Array.getD, hlt]
  ·have : outer (inner S bor b) (C.out ⟨env, [], b, S.O, S.tk⟩) C.S0.hid C.S0.fz = S := by
    show outer (inner S bor b) (OB bor b S.O) S.hid S.fz = S
    rw [hOB]
    rfl
   rw [this]
   exact (Ext.refl S).toT
  ·show (inner S bor b).β (.bor i) = S.β x
   have hx' : bor[i]? = some x := hx
   simp [inner, hx']
  ·have hx' : (if x ∈ bor then (S.O x).map (·.sz) else S.hid x) = some sz := hx
   split at hx'
   ·rename_i hm
    obtain ⟨o, ho, rfl⟩ := Option.map_eq_some_iff.1 hx'
    exact .inl ⟨hm, o, ho, rfl⟩
   exact .inr hx'
  show (if x ∈ bor then (S.O x).map (·.sz) else S.hid x).isSome = true
  by_cases hm : x ∈ bor
  ·rw [if_pos hm]
   obtain ⟨k, hk⟩ := List.mem_iff_getElem?.1 hm
   obtain ⟨o, _, ho, _⟩ := hbor.at_ k x hk
   rw [ho]; rfl
  rw [if_neg hm]
  exact hx.resolve_left hm
 refine calls_of_wp hf hb (Code.wp_mono ?_ (h S rfl rfl hfz _ _ _ hat))
 intro e a' w' hq
 have fin : ∀ S1 σ1, At C σ1 a' w' S1 → Results C fn R σ1 → a'.defers = [] ∧ ∃ v, (results fn a'.tmps).run P w' = .ok v w' ∧ ∃ out S', S'.w = w' ∧ SimH S' ∧ Ext S S' ∧ RepOut S S' out (.returned v) ∧ R out S'.O S'.tk := by
  intro S1 σ1 hat1 hR
  obtain ⟨u, w2, S2, σ2, out, r1, r2, r3, r4, r5⟩ := hR a' w' S1 hat1
  exact ⟨hat1.defers, u, r1, out, outer S2 (C.out σ2) C.S0.hid C.S0.fz, r3.w, out_sim r3, r3.ext.un (fun _ h => h), r4, by rw [show (outer S2 (C.out σ2) C.S0.hid C.S0.fz).tk = σ2.tk from r3.tk]; exact r5⟩
 cases e with
 | normal => obtain ⟨S1, σ1, hat1, hR⟩ := hq; exact fin S1 σ1 hat1 hR
 | ret => obtain ⟨S1, σ1, hat1, hR⟩ := hq; exact fin S1 σ1 hat1 hR
 | exit id => obtain ⟨S1, σ1, hat1, hR⟩ := hq; exact hR.elim
 | panic ch =>
  obtain ⟨S1, σ1, v, u, _, hat1, rfl, hr, hR⟩ := hq
  exact ⟨hat1.defers, .pan v, outer S1 (C.out σ1) C.S0.hid C.S0.fz, hat1.w, out_sim hat1, hat1.ext.un (fun _ h => h), ⟨u, rfl, hr.le (out_le hat1)⟩, by rw [show (outer S1 (C.out σ1) C.S0.hid C.S0.fz).tk = σ1.tk from hat1.tk]; exact hR⟩
 | goto l => exact hq
 | outgrown => exact hq.elim

end Go.Am

/- The abstract memory logic, eighteenth part: the rule of calls. -/
namespace Go.Am
open Go

theorem up0_inj {v w : AV} (h : v.up0 = w.up0) : v = w := by
 cases v <;> cases w <;> simp_all [AV.up0]

theorem map_inj {f : AV → AV} (hf : ∀ v w, f v = f w → v = w) : ∀ {l m : List AV}, l.map f = m.map f → l = m
 | [], [], _ => rfl
 | [], _ :: _, h => by cases h
 | _ :: _, [], h => by cases h
 | v :: l, w :: m, h => by
  simp only [List.map_cons, List.cons.injEq] at h
  rw [hf _ _ h.1, map_inj hf h.2]

theorem up_inj {v w : AV} (h : v.up = w.up) : v = w := by
 cases v <;> cases w <;> simp_all [AV.up]
 exact ⟨map_inj (fun _ _ => up0_inj) h.2.1, map_inj (fun _ _ => up0_inj) h.2.2⟩

theorem maps_inj : ∀ {l m : List (List AV)}, l.map (·.map AV.up) = m.map (·.map AV.up) → l = m
 | [], [], _ => rfl
 | [], _ :: _, h => by cases h
 | _ :: _, [], h => by cases h
 | v :: l, w :: m, h => by
  simp only [List.map_cons, List.cons.injEq] at h
  rw [map_inj (fun _ _ => up_inj) h.1, maps_inj h.2]

theorem obj_up_inj {o p : Obj} (h : o.up = p.up) : o = p := by
 obtain ⟨a, b, c, d⟩ := o
 obtain ⟨a', b', c', d'⟩ := p
 simp only [Obj.up, Obj.mk.injEq] at h ⊢
 exact ⟨h.1, h.2.1, h.2.2.1, maps_inj h.2.2.2⟩

theorem At.called {C : Ctx} {σ σ' : St} {a : Act} {w : World} {S S' : Sit} (h : At C σ a w S) (hx : Ext S S') (hT : ∀ x, C.S0.fz x = true → S.fz (.up x) = true) (hs : SimH S') (hO : S'.O = C.heap σ') (htk : S'.tk = σ'.tk) (henv : σ'.env = σ.env) (hbl : σ'.b.length = σ.b.length) : At C σ' a S'.w S' := by
 have hout : ∀ x o, C.out σ x = some o → ∃ z, S.O z = some o.up ∧ S.β z = S.β (.up x) ∧ (z = .up x ∨ x ∈ C.bor) ∧ ∃ o', C.out σ' x = some o' ∧ S'.O z = some o'.up := by
  intro x o ho
  by_cases hm : x ∈ C.bor
  ·obtain ⟨k, hk⟩ := List.mem_iff_getElem?.1 hm
   obtain ⟨p, hp⟩ : ∃ p, σ.b[k]? = some p := ⟨_, List.getElem?_eq_getElem (by rw [h.bl]; exact (List.getElem?_eq_some_iff.1 hk).1)⟩
   obtain ⟨p', hp'⟩ : ∃ p, σ'.b[k]? = some p := ⟨_, List.getElem?_eq_getElem (by rw [hbl, h.bl]; exact (List.getElem?_eq_some_iff.1 hk).1)⟩
   have : C.out σ x = some p := OB_get h.nd h.bl hk hp
   rw [this] at ho; cases ho
   exact ⟨.bor k, by rw [h.O]; show (σ.b[k]?).map Obj.up = _; rw [hp]; rfl, h.bb k x hk, .inr hm, p', OB_get h.nd (by rw [hbl, h.bl]) hk hp', by rw [hO]; show (σ'.b[k]?).map Obj.up = _; rw [hp']; rfl⟩
  have : C.out σ x = σ.O x := OB_not hm
  rw [this] at ho
  have hSx : S.O (.up x) = some o.up := by rw [h.O]; show (if x ∈ C.bor then none else (σ.O x).map Obj.up) = _; rw [if_neg hm, ho]; rfl
  obtain ⟨o1, q1, _⟩ := hx.obj _ _ hSx
  have q2 := q1
  rw [hO] at q2
  have q3 : (if x ∈ C.bor then none else (σ'.O x).map Obj.up) = some o1 := q2
  rw [if_neg hm] at q3
  obtain ⟨p, hp, rfl⟩ := Option.map_eq_some_iff.1 q3
  exact ⟨.up x, hSx, rfl, .inl rfl, p, by rw [show C.out σ' x = σ'.O x from OB_not hm]; exact hp, q1⟩
 have hβup : ∀ x, (x ∈ C.bor ∨ (C.S0.hid x).isSome = true) → S'.β (.up x) = S.β (.up x) := by
  intro x hm
  obtain ⟨sz, hsz⟩ := Option.isSome_iff_exists.1 (h.hv x hm)
  exact (hx.hid _ sz hsz).2
 have hcon : ∀ b, C.S0.con b → S.con b := by
  intro b hb
  have h1 := h.ext.con0 b hb
  refine ⟨h1.1, fun ⟨z, hz, hzb⟩ => ?_⟩
  cases z with
  | loc i =>
   have := h.new i (by rw [h.O] at hz; exact hz)
   have := hb.1
   omega
  | bor k =>
   rw [h.O] at hz
   have hz' : ((σ.b[k]?).map Obj.up).isSome = true := hz
   have hk : k < σ.b.length := by
    cases hq : σ.b[k]? with
    | none => rw [hq] at hz'; cases hz'
    | some _ => exact (List.getElem?_eq_some_iff.1 hq).1
   obtain ⟨x, hxk⟩ : ∃ x, C.bor[k]? = some x := ⟨_, List.getElem?_eq_getElem (by rw [← h.bl]; exact hk)⟩
   refine h1.2 ⟨x, ?_, by show S.β (.up x) = b; rw [← h.bb k x hxk]; exact hzb⟩
   show (OB C.bor σ.b σ.O x).isSome = true
   rw [OB_get h.nd h.bl hxk (List.getElem?_eq_getElem hk)]; rfl
  | up x =>
   rw [h.O] at hz
   have hz' : (if x ∈ C.bor then none else (σ.O x).map Obj.up).isSome = true := hz
   split at hz'
   ·cases hz'
   rename_i hm
   refine h1.2 ⟨x, ?_, hzb⟩
   show (OB C.bor σ.b σ.O x).isSome = true
   rw [OB_not hm]
   cases hq : σ.O x with
   | none => rw [hq] at hz'; cases hz'
   | some _ => rfl
 have hbb : ∀ i x, C.bor[i]? = some x → S'.β (.bor i) = S'.β (.up x) := by
  intro i x hi
  have hm : x ∈ C.bor := List.mem_of_getElem? hi
  obtain ⟨p, hp⟩ : ∃ p, σ.b[i]? = some p := ⟨_, List.getElem?_eq_getElem (by rw [h.bl]; exact (List.getElem?_eq_some_iff.1 hi).1)⟩
  have hSb : S.O (.bor i) = some p.up := by rw [h.O]; show (σ.b[i]?).map Obj.up = _; rw [hp]; rfl
  obtain ⟨_, _, _, _, _, q, _⟩ := hx.obj _ _ hSb
  rw [q, hβup x (.inl hm)]
  exact h.bb i x hi
 have hat0 : At C σ' a S'.w S' → At C σ' a S'.w S' := id
 -- what the start of the call asks
 have hlive' : ∀ g, (outer S' (C.out σ') C.S0.hid C.S0.fz).live g → S'.live g := by
  rintro g ⟨x, hxs, rfl⟩
  by_cases hm : x ∈ C.bor
  ·obtain ⟨k, hk⟩ := List.mem_iff_getElem?.1 hm
   obtain ⟨o, ho⟩ : ∃ o, σ'.b[k]? = some o := ⟨_, List.getElem?_eq_getElem (by rw [hbl, h.bl]; exact (List.getElem?_eq_some_iff.1 hk).1)⟩
   exact ⟨.bor k, by rw [hO]; show ((σ'.b[k]?).map Obj.up).isSome = true; rw [ho]; rfl, hbb k x hk⟩
  refine ⟨.up x, ?_, rfl⟩
  have hx' : (OB C.bor σ'.b σ'.O x).isSome = true := hxs
  rw [OB_not hm] at hx'
  rw [hO]
  show (if x ∈ C.bor then none else (σ'.O x).map Obj.up).isSome = true
  rw [if_neg hm]
  cases hq : σ'.O x with
  | none => rw [hq] at hx'; cases hx'
  | some _ => rfl
 have hext : ExtT C.T C.S0 (outer S' (C.out σ') C.S0.hid C.S0.fz) := by
  obtain ⟨wT, hchg, e⟩ := h.ext
  have hsz : wT.heap.size = C.S0.w.heap.size := hchg.size
  refine ⟨wT, hchg, ⟨Nat.le_trans e.size hx.size, hx.os.trans e.os, hx.tape.trans e.tape, hx.output.trans e.output, hx.B0.trans e.B0, Nat.le_trans e.tk hx.tk,
   fun t ht => (hx.tau t (Nat.lt_of_lt_of_le ht e.tk)).trans (e.tau t ht), fun b hb => ?_⟩, fun x o0 h0 => ?_, fun x h0 => ?_, fun x sz h0 => ⟨h0, ?_⟩, rfl, rfl, fun t h1 h2 => ?_⟩
  ·obtain ⟨q1, q2⟩ := hx.con b (hcon b ⟨by rw [← hsz]; exact hb.1, hb.2⟩)
   exact ⟨⟨q1.1, fun hl => q1.2 (hlive' b hl)⟩, q2.trans (e.con b hb).2⟩
  ·obtain ⟨o1, r1, r2, r3, r4, r5, r6⟩ := e.obj x o0 h0
   obtain ⟨z, z1, z2, zz, o2, z3, z4⟩ := hout x o1 r1
   obtain ⟨oz, t1, t2, t3, t4, t5, t6⟩ := hx.obj z o1.up z1
   rw [z4] at t1
   cases t1
   have hβz : S'.β (.up x) = S.β (.up x) := by
    by_cases hm : x ∈ C.bor
    ·exact hβup x (.inl hm)
    have hSx : S.O (.up x) = some o1.up := by
     rw [h.O]; show (if x ∈ C.bor then none else (σ.O x).map Obj.up) = _
     rw [if_neg hm, ← show C.out σ x = σ.O x from OB_not hm, show C.out σ x = some o1 from r1]; rfl
    obtain ⟨_, _, _, _, _, q, _⟩ := hx.obj _ _ hSx
    exact q
   refine ⟨o2, z3, t2.trans r2, t3.trans r3, t4.trans r4, by show S'.β (.up x) = _; rw [hβz]; exact r5, fun hb => ?_⟩
   obtain ⟨u1, u2⟩ := r6 hb
   subst u1
   have hb' : o1.up.box = false ∨ S.fz z = true := by
    rcases hb with hb | hb
    ·exact .inl hb
    rcases zz with rfl | hm
    ·exact .inr (hT x hb)
    rw [h.hf x hm] at hb; cases hb
   obtain ⟨u3, u4⟩ := t6 hb'
   refine ⟨obj_up_inj u3, ?_⟩
   have e1 : S.β z = C.S0.β x := by rw [z2]; exact r5
   rw [e1] at u4
   exact u4.trans u2
  ·have q := e.non x h0
   have hm : x ∉ C.bor := fun hm => by
    obtain ⟨k, hk⟩ := List.mem_iff_getElem?.1 hm
    obtain ⟨p, hp⟩ : ∃ p, σ.b[k]? = some p := ⟨_, List.getElem?_eq_getElem (by rw [h.bl]; exact (List.getElem?_eq_some_iff.1 hk).1)⟩
    have : C.out σ x = some p := OB_get h.nd h.bl hk hp
    rw [show (outer S (C.out σ) C.S0.hid C.S0.fz).O x = C.out σ x from rfl, this] at q
    cases q
   have hSx : S.O (.up x) = none := by
    rw [h.O]; show (if x ∈ C.bor then none else (σ.O x).map Obj.up) = _
    rw [if_neg hm, ← show C.out σ x = σ.O x from OB_not hm, show C.out σ x = none from q]; rfl
   have := hx.non _ hSx
   rw [hO] at this
   have this' : (if x ∈ C.bor then none else (σ'.O x).map Obj.up) = none := this
   rw [if_neg hm] at this'
   show C.out σ' x = none
   rw [show C.out σ' x = σ'.O x from OB_not hm]
   cases hq : σ'.O x with
   | none => rfl
   | some _ => rw [hq] at this'; cases this'
  ·show S'.β (.up x) = C.S0.β x
   rw [hβup x (.inr (by rw [h0]; rfl))]
   exact (e.hid x sz h0).2
  by_cases hb : t < S.tk
  ·show wT.heap.size ≤ S'.τ t
   rw [hx.tau t hb]; exact e.fresh t h1 hb
  exact Nat.le_trans e.size (hx.fresh t (by omega) h2)
 refine ⟨rfl, hO, htk, hs, fun i v hv => ?_, h.nt, h.defers, hext, fun i hi => ?_, by rw [hbl, h.bl], h.nd, hbb, h.h0, fun i => by rw [hx.hidE]; exact h.hl i, fun x sz => by rw [hx.hidE]; exact h.hu x sz, fun x hm => by rw [hx.hidE]; exact h.hv x hm, h.hf, h.inv⟩
 ·rw [henv] at hv
  obtain ⟨u, hu, hr⟩ := h.env i v hv
  exact ⟨u, hu, hr.ext hx⟩
 have hi' : (S'.O (.loc i)).isSome = true := by rw [hO]; exact hi
 cases hq : S.O (.loc i) with
 | none => rw [hx.non _ hq] at hi'; cases hi'
 | some o =>
  obtain ⟨_, _, _, _, _, q, _⟩ := hx.obj _ _ hq
  rw [q]
  exact h.new i (by rw [h.O] at hq; show (look i σ.l).isSome = true; rw [show look i σ.l = some o from hq]; rfl)

def argok : AV → Bool
 | .int .. => true
 | .bool _ => true
 | .str _ => true
 | .nilp => true
 | .cptr _ => true
 | .imm .. => true
 | .nilfn => true
 | .nilif => true
 | .optr .. => true
 | .fn _ a b => match allc0 a with
  | true => allc0 b
  | false => false
 | .agg cs => cs.all cl
 | _ => false

theorem argok_arg {S : Sit} {v : AV} {u : Value} (h : Rep S v u) (hk : argok v = true) : Arg S v u := by
 cases v with
 | fn f a b =>
  cases ha : allc0 a with
  | true =>
   simp only [argok, ha] at hk
   exact ⟨h, ha, hk⟩
  | false =>
   simp only [argok, ha] at hk
   cases hk
 | agg cs =>
  obtain ⟨us, rfl, hl, hs, hr⟩ := rep_agg h
  exact .agg cs us hl hs fun j x hj => cl_repc (hr j x hj) (List.all_eq_true.1 hk x (List.mem_of_getElem? hj))
 | optr x i off => exact h
 | cptr cs => exact rep_cptr h
 | int k n => exact cl_repc h rfl
 | bool b => exact cl_repc h rfl
 | str s => exact cl_repc h rfl
 | nilp => exact cl_repc h rfl
 | imm a b c d => exact cl_repc h rfl
 | nilfn => exact cl_repc h rfl
 | nilif => exact cl_repc h rfl
 | any => cases hk
 | jnk => cases hk
 | osl x => cases hk
 | iface t v => cases hk
 | tup cs => cases hk

end Go.Am

/- The abstract memory logic, nineteenth part: calls, results, forgetting, loops. -/
namespace Go.Am
open Go

section
variable {S : Sit} (f : ID → Bool)

theorem fz_le : Le S { S with fz := f } := ⟨Nat.le_refl _, rfl, rfl, rfl, rfl, Nat.le_refl _, fun _ _ => rfl, fun _ h => ⟨h, rfl⟩⟩
theorem fz_mov : Mov S { S with fz := f } (fun _ => False) := ⟨fz_le f, fun x o h _ => ⟨o, h, rfl, rfl, rfl, rfl, rfl, fun cur hc => ⟨cur, hc, rfl⟩⟩, fun _ _ h => ⟨h, rfl⟩⟩
theorem fz_rep {v : AV} {u : Value} (h : Rep S v u) : Rep { S with fz := f } v u := h.mov0 (fz_mov f)
theorem fz_sim (h : SimH S) : SimH { S with fz := f } := ⟨fun x o hx => by
  obtain ⟨cur, q1, q2, q3, q4, q5⟩ := h.obj x o hx
  exact ⟨cur, q1, q2, q3, q4, fun i e j v hi hj => let ⟨r1, u, r2, r3, r4⟩ := q5 i e j v hi hj; ⟨r1, u, r2, fz_rep f r3, fun hb => (r4 hb).le (fz_le f)⟩⟩,
 h.inj, h.base, h.tok, h.tinj, h.b0, h.hid, h.tk2⟩
theorem At.fz {C : Ctx} {σ : St} {a : Act} {w : World} (h : At C σ a w S) : At C σ a w { S with fz := f } :=
 ⟨h.w, h.O, h.tk, fz_sim f h.sim, fun i v hv => let ⟨u, h1, h2⟩ := h.env i v hv; ⟨u, h1, fz_rep f h2⟩, h.nt, h.defers, h.ext, h.new, h.bl, h.nd, h.bb, h.h0, h.hl, h.hu, h.hv, h.hf, h.inv⟩
end

theorem rep_fn {S : Sit} {f : Fn} {first cap : List AV} {u : Value} (h : Rep S (.fn f first cap) u) : ∃ us1 us2 : Array Value, u = .func f us1 us2 ∧ us1.size = first.length ∧ us2.size = cap.length ∧
  (∀ j x, first[j]? = some x → Rep S x (us1.getD j undef)) ∧ ∀ j x, cap[j]? = some x → Rep S x (us2.getD j undef) := by
 cases h with
 | clo h =>
  cases h with
  | fn _ _ _ us1 us2 l1 l2 h1 h2 => exact ⟨us1, us2, rfl, l1, l2, fun j x hx => .clo (h1 j x hx), fun j x hx => .clo (h2 j x hx)⟩
 | fn _ _ _ us1 us2 l1 l2 h1 h2 => exact ⟨us1, us2, rfl, l1, l2, h1, h2⟩

def tfz (T : List ID) (x : ID) : Bool := decide (x ∉ T)

theorem At.invS {C : Ctx} {σ : St} {a : Act} {w : World} {S : Sit} (h : At C σ a w S) : Inv S.B0 S.w := by
 have hB : S.B0 = C.S0.B0 := h.ext.B0
 rw [hB]
 refine Inv.keep h.inv ⟨h.ext.os, h.ext.tape, h.ext.output, ?_, fun b hb => ?_⟩
 ·exact h.ext.size
 have hc : C.S0.con b := ⟨Nat.lt_of_lt_of_le hb h.h0.b0, fun ⟨x, hx, hxb⟩ => by have := h.h0.base x hx; omega⟩
 obtain ⟨w', h1, h2⟩ := h.ext
 have e1 := h1.same b fun t _ t1 t2 e => by have := (h.h0.tok t t1 t2).2.2; omega
 rw [← e1]
 exact (h2.con b ⟨by show b < w'.heap.size; rw [h1.size]; exact hc.1, hc.2⟩).2

theorem call_wp {C : Ctx} {σ : St} {a : Act} {w : World} {S : Sit} (hat : At C σ a w S) {o : Oper} {f : Operand} {xs : List Operand} {ts : Array TypeId} (hop : o.op = .call { callee := .value f, args := xs.toArray, argTypes := ts })
  {fid : FuncId} {first cap vs : List AV} (hf : oev σ.env f = some (.fn (.func fid) first cap)) (hx : oevs σ.env xs = some vs) (hok : (first ++ (vs ++ cap)).all argok = true)
  {R : Out → Heap → Nat → Prop} (hc : ACalls C.P fid (first ++ (vs ++ cap)) (C.heap σ) σ.tk R) {K : Act → World → Prop} {Q : Exit → Act → World → Prop}
  (hret : ∀ v u S', Ext { S with fz := tfz (tch (first ++ (vs ++ cap))) } S' → SimH S' → RepC S' v u → R (.ret v) S'.O S'.tk → K (a.put o.dst u) S'.w)
  (hpan : ∀ v u S', Ext { S with fz := tfz (tch (first ++ (vs ++ cap))) } S' → SimH S' → RepC S' v u → R (.pan v) S'.O S'.tk → Q (.panic [{ v := u, recovered := false }]) a S'.w)
  (hbox : ∀ ob u S', Ext { S with fz := tfz (tch (first ++ (vs ++ cap))) } S' → SimH S' → RepOut { S with fz := tfz (tch (first ++ (vs ++ cap))) } S' (.box ob) (.returned u) → R (.box ob) S'.O S'.tk → K (a.put o.dst u) S'.w) : o.wp C.P a w K Q := by
 have hwS := hat.w
 subst hwS
 obtain ⟨us1, us2, hu, l1, l2, r1, r2⟩ := rep_fn (oev_rep hat hf)
 obtain ⟨l3, r3⟩ := oevs_rep hat hx
 obtain ⟨⟨fn, c, q1, q2, q3⟩, hc⟩ := hc
 let S1 : Sit := { S with fz := tfz (tch (first ++ (vs ++ cap))) }
 have hrun : (execOp a.eval o).run C.P S.w = .ok (.enter fid (us1 ++ (xs.map a.eval).toArray ++ us2)) S.w := by
  unfold execOp
  simp only [hop, resolve, hu, Deferred.ofValue, Sem.run_bind, Sem.run_pure, Result.andThen_ok, invoke, List.map_toArray]
  exact MuLone.run_callFunc_enter q1 q2 q3 _ _
 have hlen : (us1 ++ (xs.map a.eval).toArray ++ us2).size = (first ++ (vs ++ cap)).length := by
  have l3' : (xs.map a.eval).length = vs.length := l3
  simp only [List.length_map] at l3'
  simp [l1, l2, l3', Nat.add_assoc]
 have hargs : ∀ j v, (first ++ (vs ++ cap))[j]? = some v → Arg S1 v ((us1 ++ (xs.map a.eval).toArray ++ us2).getD j undef) := by
  intro j v hj
  have hk : argok v = true := List.all_eq_true.1 hok v (List.mem_of_getElem? hj)
  refine argok_arg (fz_rep _ ?_) hk
  have l3' : (xs.map a.eval).toArray.size = vs.length := by simpa using l3
  by_cases h1 : j < first.length
  ·rw [List.getElem?_append_left h1] at hj
   have hq := r1 j v hj
   have e : (us1 ++ (xs.map a.eval).toArray ++ us2).getD j undef = us1.getD j undef := by
    simp only [Array.getD_eq_getD_getElem?]
    rw [Array.getElem?_append_left (by simp; omega), Array.getElem?_append_left (by omega)]
   rw [e]; exact hq
  rw [List.getElem?_append_right (by omega)] at hj
  by_cases h2 : j - first.length < vs.length
  ·rw [List.getElem?_append_left h2] at hj
   have hq := r3 (j - first.length) v hj
   have e : (us1 ++ (xs.map a.eval).toArray ++ us2).getD j undef = (xs.map a.eval).getD (j - first.length) undef := by
    simp only [Array.getD_eq_getD_getElem?, List.getD_eq_getElem?_getD]
    rw [Array.getElem?_append_left (by rw [Array.size_append]; omega), Array.getElem?_append_right (by omega), l1]
    simp
   rw [e]; exact hq
  rw [List.getElem?_append_right (by omega)] at hj
  have hq := r2 _ v hj
  have e : (us1 ++ (xs.map a.eval).toArray ++ us2).getD j undef = us2.getD (j - first.length - vs.length) undef := by
   simp only [Array.getD_eq_getD_getElem?]
   rw [Array.getElem?_append_right (by rw [Array.size_append]; omega), Array.size_append, l1, l3', Nat.sub_sub]
  rw [e]; exact hq
 have hcalls := hc S1 _ hat.O hat.tk (fz_sim _ hat.sim) hat.invS (fun x hx => by show tfz _ x = false; unfold tfz; exact decide_eq_false (fun h => h hx)) hlen hargs
 unfold Oper.wp
 rw [hrun, Oper.upon_enter]
 refine hcalls.mono fun e w' ⟨out, S', s1, s2, s3, s4, s5⟩ => ?_
 subst s1
 cases out with
 | ret v =>
  obtain ⟨u, rfl, hu⟩ := s4
  exact hret v u S' s3 s2 hu s5
 | pan v =>
  obtain ⟨u, rfl, hu⟩ := s4
  exact hpan v u S' s3 s2 hu s5
 | box ob =>
  have s4' := s4
  obtain ⟨b, cur, rfl, _⟩ := s4'
  exact hbox ob _ S' s3 s2 s4 s5

theorem keep_call {C : Ctx} {σ : St} {a : Act} {w : World} {S S' : Sit} (hat : At C σ a w S) {T : List ID} (hx : Ext { S with fz := tfz T } S') : KeepW S S' T := by
 refine ⟨⟨hx.size, fun b hb hW => ?_⟩, fun x hx' => ?_⟩
 ·by_cases hl : S.live b
  ·obtain ⟨x, hx', rfl⟩ := hl
   obtain ⟨o, ho⟩ := Option.isSome_iff_exists.1 hx'
   obtain ⟨_, _, _, _, _, _, q⟩ := hx.obj x o ho
   exact (q (.inr (decide_eq_true fun hm => hW x hm rfl))).2
  exact (hx.con b ⟨hb, hl⟩).2
 obtain ⟨o, ho⟩ := Option.isSome_iff_exists.1 hx'
 obtain ⟨o', h1, _, _, _, h2, _⟩ := hx.obj x o ho
 exact ⟨by rw [h1]; rfl, .inl h2⟩

def CallK (C : Ctx) (σ : St) (K : St → AV → Prop) (KP : St → AV → Prop) (R : Out → Heap → Nat → Prop) : Prop :=
 (∀ v O' tk', R (.ret v) O' tk' → ∃ σ', σ'.env = σ.env ∧ C.heap σ' = O' ∧ σ'.tk = tk' ∧ σ'.b.length = σ.b.length ∧ K σ' v) ∧
 (∀ v O' tk', R (.pan v) O' tk' → ∃ σ', σ'.env = σ.env ∧ C.heap σ' = O' ∧ σ'.tk = tk' ∧ σ'.b.length = σ.b.length ∧ KP σ' v) ∧
 ∀ ob O' tk', ¬ R (.box ob) O' tk'

def upsOf : List ID → List ID
 | [] => []
 | x :: r => match x with
  | .up y => y :: upsOf r
  | _ => upsOf r

theorem mem_upsOf : ∀ {l : List ID} {y : ID}, ID.up y ∈ l → y ∈ upsOf l
 | x :: r, y, h => by
  unfold upsOf
  rcases List.mem_cons.1 h with rfl | h
  ·simp
  have := mem_upsOf h
  split <;> simp [this]

theorem run_call {C : Ctx} {Q : AEx → St → Prop} {ks : List AItem} {σ : St} {all : Array Oper} {o : Oper} {rest : List Oper} {d : Nat} (hg : o.guard = none) {f : Operand} {xs : List Operand} {ts : Array TypeId}
  (hop : o.op = .call { callee := .value f, args := xs.toArray, argTypes := ts }) (hd : o.dst = some d) (hn : d < C.nt)
  {fid : FuncId} {first cap vs : List AV} (hf : oev σ.env f = some (.fn (.func fid) first cap)) (hx : oevs σ.env xs = some vs) (hok : (first ++ (vs ++ cap)).all argok = true)
  (hT : ∀ x ∈ upsOf (tch (first ++ (vs ++ cap))), C.S0.fz x = false)
  {R : Out → Heap → Nat → Prop} (hc : ACalls C.P fid (first ++ (vs ++ cap)) (C.heap σ) σ.tk R)
  (h : CallK C σ (fun σ' v => Run C Q (.ops all rest :: ks) .normal (σ'.put d v)) (fun σ' v => Run C Q ks (.pan v) { σ' with env := [] }) R) : Run C Q (.ops all (o :: rest) :: ks) .normal σ := by
 intro a w S hat
 refine wpList_plain hg fun K hK => ?_
 have hTT : ∀ x, C.S0.fz x = true → tfz (tch (first ++ (vs ++ cap))) (.up x) = true := fun x hx => decide_eq_true fun hm => by
  rw [hT x (mem_upsOf hm)] at hx; cases hx
 refine call_wp hat hop hf hx hok hc (fun v u S' q1 q2 q3 q4 => ?_) (fun v u S' q1 q2 q3 q4 => ?_) (fun ob u S' _ _ _ q => absurd q (h.2.2 _ _ _))
 ·obtain ⟨σ', e1, e2, e3, e4, hr⟩ := h.1 v _ _ q4
  have hat' := (hat.fz (tfz (tch (first ++ (vs ++ cap))))).called q1 hTT q2 e2.symm e3.symm e1 e4
  refine hK _ _ (hr _ _ S' ?_)
  rw [hd]
  exact hat'.put hn (.clo q3)
 obtain ⟨σ', e1, e2, e3, e4, hr⟩ := h.2.1 v _ _ q4
 have hat' := (hat.fz (tfz (tch (first ++ (vs ++ cap))))).called q1 hTT q2 e2.symm e3.symm e1 e4
 exact ⟨S', { σ' with env := [] }, v, u, rfl, hat'.weaken [] (fun i v hv => by simp [look] at hv), rfl, q3, hr⟩


def outc : AV → Bool
 | .agg cs => cs.all cl
 | .fn _ a b => a.all cl && b.all cl
 | .cptr _ => true
 | v => cl v

theorem outc_repc {S : Sit} {v : AV} {u : Value} (h : Rep S v u) (hv : outc v = true) : RepC S v u := by
 cases v with
 | agg cs =>
  obtain ⟨us, rfl, hl, hs, hr⟩ := rep_agg h
  exact .agg cs us hl hs fun j x hj => cl_repc (hr j x hj) (List.all_eq_true.1 hv x (List.mem_of_getElem? hj))
 | fn f a b =>
  obtain ⟨us1, us2, rfl, l1, l2, r1, r2⟩ := rep_fn h
  simp only [outc, Bool.and_eq_true] at hv
  exact .fn f a b us1 us2 l1 l2 (fun j x hj => cl_repc (r1 j x hj) (List.all_eq_true.1 hv.1 x (List.mem_of_getElem? hj))) (fun j x hj => cl_repc (r2 j x hj) (List.all_eq_true.1 hv.2 x (List.mem_of_getElem? hj)))
 | cptr cs => exact rep_cptr h
 | any => cases hv
 | jnk => cases hv
 | osl x => cases hv
 | optr x i off => cases hv
 | iface t v => cases hv
 | tup cs => cases hv
 | int k n => exact cl_repc h rfl
 | bool b => exact cl_repc h rfl
 | str s => exact cl_repc h rfl
 | nilp => exact cl_repc h rfl
 | imm a b c d => exact cl_repc h rfl
 | nilfn => exact cl_repc h rfl
 | nilif => exact cl_repc h rfl

def ares (Γ : TTab) (H : Heap) (env : List (Nat × AV)) : List ResultVar → Option (List AV)
 | [] => some []
 | r :: rs => match (match r with
   | .tmp t => look t env
   | .cell a t => match look a env with
    | some p => aload Γ H t p
    | none => none) with
  | some v => match ares Γ H env rs with
   | some vs => some (v :: vs)
   | none => none
  | none => none

def outOf : List AV → AV
 | [v] => v
 | vs => .tup vs

theorem load_run {C : Ctx} {Γ : TTab} (hG : GOK C.P Γ) {σ : St} {a : Act} {w : World} {S : Sit} (hat : At C σ a w S) {T : TypeId} {t : Nat} {p v : AV} (hx : look t σ.env = some p) (h : aload Γ (C.heap σ) T p = some v) :
  ∃ u, (do loadVar T (← asAddr (a.tmps.getD t undef)) : Sem Value).run C.P w = .ok u w ∧ Rep S v u := by
 have hl : ldok [] p := by
  unfold aload at h
  split at h
  ·split at h
   ·rename_i cs hcs
    unfold cellsAt at hcs
    split at hcs
    ·exact fun h => by cases h
    ·trivial
    cases hcs
   cases h
  cases h
 obtain ⟨u, h1, h2⟩ := aload_rd (W := []) hG (o := { dst := none, op := .load T (.tmp t), type := T, pos := "", after := #[], guard := none }) rfl (x := .tmp t) (σ := σ) hx h hl a w S hat (fun _ hm => by cases hm)
 refine ⟨u, ?_, h2⟩
 have h1 := h1 w (hat.w ▸ Held.refl S [])
 unfold execOp at h1
 obtain ⟨cs, hcs⟩ : ∃ cs, cellsAt (C.heap σ) p = some cs := by
  unfold aload at h
  split at h
  ·split at h
   ·exact ⟨_, by assumption⟩
   cases h
  cases h
 obtain ⟨p', hp1, hp2⟩ := hat.env t p hx
 obtain ⟨b, off, hu, _⟩ := cellsAt_rep hat hp2 hcs
 have he : a.eval (.tmp t) = .pointer (some ⟨b, off, none⟩) := by simp [Act.eval, hp1, hu]
 have hg : a.tmps.getD t undef = .pointer (some ⟨b, off, none⟩) := by simp [Array.getD_eq_getD_getElem?, hp1, hu]
 simp only [he, Instr.loadAt, Instr.sureAddr, Sem.run_bind, Sem.run_pure, Result.andThen_ok] at h1
 simp only [hg, asAddr, Sem.run_bind, Sem.run_pure, Result.andThen_ok]
 cases hr : (loadVar T ⟨b, off, none⟩).run C.P w with
 | ok x w' => rw [hr] at h1; simp at h1; rw [h1.1, h1.2]
 | halt x w' => rw [hr] at h1; simp [Result.andThen] at h1

def rvm (tmps : Array Value) : ResultVar → Sem Value
 | .tmp t => pure (tmps.getD t undef)
 | .cell a t => do loadVar t (← asAddr (tmps.getD a undef))

theorem ares_run {C : Ctx} {Γ : TTab} (hG : GOK C.P Γ) {σ : St} {a : Act} {w : World} {S : Sit} (hat : At C σ a w S) : ∀ {rs : List ResultVar} {vs : List AV}, ares Γ (C.heap σ) σ.env rs = some vs →
  ∃ us : List Value, (rs.mapM (rvm a.tmps)).run C.P w = .ok us w ∧ us.length = vs.length ∧ ∀ (j : Nat) (v : AV), vs[j]? = some v → Rep S v (us.getD j undef)
 | [], vs, h => by cases h; exact ⟨[], by simp, rfl, fun j v hj => by simp at hj⟩
 | r :: rs, vs, h => by
  unfold ares at h
  split at h
  ·rename_i v hv
   split at h
   ·rename_i vs' hvs
    cases h
    obtain ⟨us, h1, h2, h3⟩ := ares_run hG hat hvs
    have hone : ∃ u, (rvm a.tmps r).run C.P w = .ok u w ∧ Rep S v u := by
     cases r with
     | tmp t =>
      obtain ⟨u, hu, hr⟩ := hat.env t v hv
      exact ⟨u, by simp [rvm, Array.getD_eq_getD_getElem?, hu], hr⟩
     | cell x t =>
      simp only at hv
      split at hv
      ·rename_i p hp
       exact load_run hG hat hp hv
      cases hv
    obtain ⟨u, hu, hr⟩ := hone
    refine ⟨u :: us, ?_, by simp [h2], fun j y hj => ?_⟩
    ·rw [List.mapM_cons]
     simp only [Sem.run_bind, hu, Result.andThen_ok, h1, Sem.run_pure]
    cases j with
    | zero => simp at hj; subst hj; simpa using hr
    | succ j => simpa using h3 j y (by simpa using hj)
   cases h
  cases h

theorem run_mapM_toArray {α β : Type} (f : α → Sem β) (l : List α) (P : Program) (w : World) {us : List β} (h : (l.mapM f).run P w = .ok us w) : (l.toArray.mapM f).run P w = .ok us.toArray w := by
 rw [List.mapM_toArray]
 simp [h]

theorem fin_ret {C : Ctx} {Γ : TTab} (hG : GOK C.P Γ) {σ : St} {fn : Func} {rs : List ResultVar} (hrs : fn.results = rs.toArray) {vs : List AV} (hv : ares Γ (C.heap σ) σ.env rs = some vs) (hc : vs.all outc = true)
  {R : Out → Heap → Nat → Prop} (h : R (.ret (outOf vs)) (C.out σ) σ.tk) : Results C fn R σ := by
 intro a w S hat
 obtain ⟨us, h1, h2, h3⟩ := ares_run hG hat hv
 have hcl : ∀ (j : Nat) (v : AV), vs[j]? = some v → RepC S v (us.getD j undef) := fun j v hj => outc_repc (h3 j v hj) (List.all_eq_true.1 hc v (List.mem_of_getElem? hj))
 have hrun := run_mapM_toArray _ _ _ _ h1
 have hres : (results fn a.tmps).run C.P w = .ok (if h : us.toArray.size = 1 then us.toArray[0] else .tuple us.toArray) w := by
  have he : results fn a.tmps = (do let vs ← fn.results.mapM (rvm a.tmps); pure (if h : vs.size = 1 then vs[0] else .tuple vs)) := rfl
  rw [he, hrs]
  simp only [Sem.run_bind]
  rw [hrun]
  simp
 refine ⟨_, w, S, σ, .ret (outOf vs), hres, rfl, hat, ⟨_, rfl, RepC.le (out_le hat) ?_⟩, h⟩
 match vs, us, h2, hcl with
 | [], [], _, _ => exact .tup [] #[] rfl (fun j x hj => by simp at hj)
 | [v], [u], _, hcl => exact hcl 0 v rfl
 | v :: v' :: vs, u :: u' :: us, h2, hcl =>
  refine .tup _ _ (by simpa using h2) fun j x hj => ?_
  have := hcl j x hj
  simpa [Array.getD_eq_getD_getElem?, List.getD_eq_getElem?_getD] using this


def Sub (C : Ctx) (σ σ' : St) : Prop := ∀ a w S, At C σ a w S → ∃ S', At C σ' a w S' ∧ S'.w = S.w ∧ S'.β = S.β

theorem Sub.refl (C : Ctx) (σ : St) : Sub C σ σ := fun _ _ S h => ⟨S, h, rfl, rfl⟩
theorem Sub.trans {C : Ctx} {σ1 σ2 σ3 : St} (h : Sub C σ1 σ2) (k : Sub C σ2 σ3) : Sub C σ1 σ3 := fun a w S hat =>
 let ⟨S', h1, h2, h3⟩ := h a w S hat
 let ⟨S'', k1, k2, k3⟩ := k a w S' h1
 ⟨S'', k1, k2.trans h2, k3.trans h3⟩

def Has (env : List (Nat × AV)) : List (Nat × AV) → Prop
 | [] => True
 | (i, v) :: r => look i env = some v ∧ Has env r

theorem Has.get {env : List (Nat × AV)} : ∀ {l : List (Nat × AV)}, Has env l → ∀ i v, look i l = some v → look i env = some v
 | [], _, i, v, h => by simp [look] at h
 | (j, x) :: r, hh, i, v, h => by
  simp only [look] at h
  split at h
  ·rename_i hb
   cases h
   rw [Nat.eq_of_beq_eq_true hb]
   exact hh.1
  exact hh.2.get i v h

theorem Sub.env {C : Ctx} {σ : St} (env : List (Nat × AV)) (h : Has σ.env env) : Sub C σ { σ with env := env } := fun _ _ S hat =>
 ⟨S, hat.weaken env (fun i v hv => .inl (h.get i v hv)), rfl, rfl⟩

theorem run_sub_code {C : Ctx} {Q : AEx → St → Prop} {ks : List AItem} {σ σ' : St} {c : Code} (hs : Sub C σ σ') (h : Run C Q (.code c :: ks) .normal σ') : Run C Q (.code c :: ks) .normal σ :=
 fun a w S hat => let ⟨S', h1, _⟩ := hs a w S hat; h a w S' h1
theorem run_sub_ops {C : Ctx} {Q : AEx → St → Prop} {ks : List AItem} {σ σ' : St} {all : Array Oper} {rest : List Oper} (hs : Sub C σ σ') (h : Run C Q (.ops all rest :: ks) .normal σ') : Run C Q (.ops all rest :: ks) .normal σ :=
 fun a w S hat => let ⟨S', h1, _⟩ := hs a w S hat; h a w S' h1

theorem run_rounds {C : Ctx} {Q : AEx → St → Prop} {ks : List AItem} {σ : St} {c : Code} (I : Nat → St → Prop) (n : Nat) {σ0 : St} (hs : Sub C σ σ0) (h0 : I n σ0)
  (round : ∀ n σ, I n σ → Run C Q (.code c :: .loop (fun σ' => ∃ m σ0, m < n ∧ I m σ0 ∧ Sub C σ' σ0) :: ks) .normal σ) :
  Run C Q (.code (.loop c) :: ks) .normal σ := by
 refine run_loop (fun n σ => ∃ σ0, I n σ0 ∧ Sub C σ σ0) n ⟨σ0, h0, hs⟩ fun n σ ⟨σ1, h1, h2⟩ => ?_
 refine run_sub_code h2 ?_
 have := round n σ1 h1
 intro a w S hat
 refine Code.wp_mono (QC.mono fun e σ hq => ?_) (this a w S hat)
 cases e with
 | normal =>
  obtain ⟨m, σ0, q1, q2, q3⟩ := hq
  exact ⟨m, q1, σ0, q2, q3⟩
 | exit id => exact hq
 | ret => exact hq
 | pan v => exact hq

end Go.Am

/- The abstract memory logic, twentieth part: regions whose order is drawn. -/
namespace Go.Am
open Go

theorem Sub.freeze {C : Ctx} {σ : St} {k : Nat} {o : Obj} (hk : look k σ.l = some o) (hb : o.box = false) :
  Sub C σ ⟨subE k (.imm σ.tk o.sz false o.es) σ.env, dele k (subO k (.imm σ.tk o.sz false o.es) σ.l), σ.b, σ.O, σ.tk + 1⟩ := fun _ _ _ hat => hat.freeze hk hb
theorem Sub.drop {C : Ctx} {σ : St} {k : Nat} {o : Obj} (hk : look k σ.l = some o) :
  Sub C σ ⟨subE k .jnk σ.env, dele k (subO k .jnk σ.l), σ.b, σ.O, σ.tk⟩ := fun _ _ _ hat => hat.drop hk

theorem run_if {C : Ctx} {Q : AEx → St → Prop} {ks : List AItem} {σ : St} {c : Operand} {x y : Code} {b : Bool} {i : Nat} (hc : c = .tmp i) (hv : look i σ.env = some (.bool b))
  (ht : b = true → Run C Q (.code x :: ks) .normal σ) (hf : b = false → Run C Q (.code y :: ks) .normal σ) : Run C Q (.code (.cond c x y) :: ks) .normal σ :=
 run_cond hc hv (by cases b with
  | true => exact ht rfl
  | false => exact hf rfl)

theorem At.world {C : Ctx} {σ : St} {a : Act} {w : World} {S : Sit} (h : At C σ a w S) {w' : World} (hh : w'.heap = w.heap) (h1 : w'.os = w.os) (h2 : w'.tape = w.tape) (h3 : w'.output = w.output) : At C σ a w' { S with w := w' } := by
 have hw := h.w
 subst hw
 let S' : Sit := { S with w := w' }
 have hle : Le S S' := ⟨by show _ ≤ w'.heap.size; rw [hh]; exact Nat.le_refl _, h1, h2, h3, rfl, Nat.le_refl _, fun _ _ => rfl, fun b hb => ⟨⟨by show b < w'.heap.size; rw [hh]; exact hb.1, hb.2⟩, by show w'.heap[b]? = _; rw [hh]⟩⟩
 have hmov : Mov S S' (fun _ => False) := ⟨hle, fun x o ho _ => ⟨o, ho, rfl, rfl, rfl, rfl, rfl, fun cur hc => ⟨cur, by show w'.heap[S.β x]? = _; rw [hh]; exact hc, rfl⟩⟩, fun _ _ h => ⟨h, rfl⟩⟩
 refine ⟨rfl, h.O, h.tk, ⟨fun x o hx => ?_, h.sim.inj, h.sim.base, fun t t1 t2 => ?_, h.sim.tinj, by show _ ≤ w'.heap.size; rw [hh]; exact h.sim.b0, h.sim.hid, h.sim.tk2⟩, fun i v hv => ?_, h.nt, h.defers, ?_, h.new, h.bl, h.nd, h.bb, h.h0, h.hl, h.hu, h.hv, h.hf, h.inv⟩
 ·obtain ⟨cur, q1, q2, q3, q4, q5⟩ := h.sim.obj x o hx
  exact ⟨cur, by show w'.heap[S.β x]? = _; rw [hh]; exact q1, q2, q3, q4, fun i e j v hi hj => let ⟨r1, u, r2, r3, r4⟩ := q5 i e j v hi hj; ⟨r1, u, r2, r3.mov0 hmov, fun hb => (r4 hb).le hle⟩⟩
 ·obtain ⟨q1, q2, q3⟩ := h.sim.tok t t1 t2
  exact ⟨by show _ < w'.heap.size; rw [hh]; exact q1, q2, q3⟩
 ·obtain ⟨u, hu, hr⟩ := h.env i v hv
  exact ⟨u, hu, hr.mov0 hmov⟩
 exact h.ext.own rfl rfl rfl rfl (Nat.le_refl _) (fun _ _ => rfl) h1 h2 h3 (by show _ ≤ w'.heap.size; rw [hh]; exact Nat.le_refl _) (fun x o hx => h.h0.lt hx) (fun b _ => by show w'.heap[b]? = _; rw [hh]; rfl) (fun t t1 t2 => absurd t1 (Nat.not_le_of_lt t2))

def AAny (C : Ctx) (all : Array Oper) (Q : AEx → St → Prop) (W : List ID) (fuel : Nat) (listed : Array Bool) (σ : St) : Prop :=
 ∀ a w S, At C σ a w S → (∀ x ∈ W, (S.O x).isSome = true) → wpAnyH C.P .any all (QC C Q) (Held S W) fuel listed a w

def AOp (C : Ctx) (all : Array Oper) (Q : AEx → St → Prop) (W : List ID) (i : Nat) (K : St → Prop) (σ : St) : Prop :=
 ∀ a w S, At C σ a w S → (∀ x ∈ W, (S.O x).isSome = true) → wpOp C.P all (QC C Q) i (fun a' w' => ∃ S' σ', At C σ' a' w' S' ∧ KeepW S S' W ∧ K σ') a w

section
variable {C : Ctx} {all : Array Oper} {Q : AEx → St → Prop} {W : List ID} {fuel : Nat} {listed : Array Bool} {σ : St} {ks : List AItem}

theorem run_draw (W : List ID) {n : Nat} (hm : C.P.follows .mixedOrders = true) {id : Nat} (hn : all.size = n) (hW : ∀ x ∈ W, (C.heap σ x).isSome = true) (h : AAny C all (Run C Q ks) W n (Array.replicate n false) σ) :
  Run C Q (.code (.region id all true) :: ks) .normal σ := by
 subst hn
 intro a w S hat
 have hat' := hat.world (w' := { w with drawn := w.drawn + 1 }) rfl rfl rfl rfl
 exact wp_region_held hm (h a _ _ hat' fun x hx => by rw [hat'.O]; exact hW x hx)

theorem wpAnyH_rebase {P : Program} {md : Region.Mode} {Q : Exit → Act → World → Prop} {S S' : World → Prop} (hs : ∀ w, S' w → S w) : ∀ (fuel : Nat) (listed : Array Bool) (a : Act) (w : World), wpAnyH P md all Q S' fuel listed a w → wpAnyH P md all Q S fuel listed a w
 | 0, _, _, _, h => h
 | fuel + 1, _, _, _, h => ⟨h.1, fun i hi => wpOp_mono (fun a' w' h' => ⟨hs _ h'.1, wpAnyH_rebase hs fuel _ a' w' h'.2⟩) (h.2 i hi)⟩

theorem AAny.take {i : Nat} {oi : Oper} {v : AV} {d : Nat} (hi : all[i]? = some oi) (hs : Region.noSelect all = true) (hf : Region.free .any all listed i = true) (hr : (Region.ready .any all listed).contains i = true)
  (hg : oi.guard = none) (hd : oi.dst = some d) (hn : d < C.nt) (hy : Rd C W oi σ v) (h : AAny C all Q W fuel (listed.setIfInBounds i true) (σ.put d v)) : AAny C all Q W (fuel + 1) listed σ := by
 intro a w S hat hW
 obtain ⟨u, h1, h2⟩ := hy a w S hat hW
 have hwS := hat.w
 subst hwS
 refine wpAnyH_take hi hs hf hr (fun c a' w' hq => ?_) (.inl ⟨by simp [Region.wanted, hg], fun w' hw' => h1 w' hw'⟩) (Held.refl S W) ?_
 ·obtain ⟨S1, σ1, v1, u1, e1, q1, q2, q3, q4⟩ := hq
  refine ⟨S1, σ1, v1, u1, e1, ⟨q1.w, q1.O, q1.tk, q1.sim, fun j x hj => by rw [e1] at hj; simp [look] at hj, by have := q1.nt; rw [hd] at this; simpa [Act.put] using this, by have := q1.defers; rw [hd] at this; exact this, q1.ext, q1.new, q1.bl, q1.nd, q1.bb, q1.h0, q1.hl, q1.hu, q1.hv, q1.hf, q1.inv⟩, q2, q3, q4⟩
 rw [hd]
 exact h _ _ S (hat.put hn h2) hW

theorem AAny.each {rs : List Nat} (hr : Region.ready .any all listed = rs) (hne : rs ≠ []) (h : ∀ i ∈ rs, AOp C all Q W i (AAny C all Q W fuel (listed.setIfInBounds i true)) σ) : AAny C all Q W (fuel + 1) listed σ := by
 intro a w S hat hW
 refine wpAnyH_all hr hne fun i hi => wpOp_mono (fun a' w' ⟨S', σ', h1, h2, h3⟩ => ?_) (h i hi a w S hat hW)
 have hw := h1.w
 subst hw
 exact ⟨h2.1, wpAnyH_rebase (fun w1 hw1 => hw1.trans h2 hW) _ _ _ _ (h3 _ _ S' h1 fun x hx => (h2.2 x (hW x hx)).1)⟩

theorem AAny.one {i : Nat} (hr : Region.ready .any all listed = [i]) (h : AOp C all Q W i (AAny C all Q W fuel (listed.setIfInBounds i true)) σ) : AAny C all Q W (fuel + 1) listed σ :=
 AAny.each hr (fun h => by cases h) fun j hj => by rw [List.mem_singleton] at hj; subst hj; exact h

theorem AAny.done (hr : Region.ready .any all listed = []) (h : Q .normal σ) : AAny C all Q W fuel listed σ := fun _ _ S hat _ => wpAnyH_done hr ⟨S, σ, hat, h⟩ _

theorem AAny.sub {σ' : St} (hs : Sub C σ σ') (hl : ∀ x ∈ W, (C.heap σ' x).isSome = true) (h : AAny C all Q W fuel listed σ') : AAny C all Q W fuel listed σ := fun a w S hat _ => by
 obtain ⟨S', h1, h2, h3⟩ := hs a w S hat
 refine wpAnyH_rebase (fun w1 hw1 => ?_) _ _ _ _ (h a w S' h1 fun x hx => by rw [h1.O]; exact hl x hx)
 unfold Held at *
 rw [h2, h3] at hw1
 exact hw1

theorem AOp.step {i : Nat} {oi : Oper} {K : St → Prop} {v : AV} {σ' : St} {d : Nat} (hi : all[i]? = some oi) (hg : oi.guard = none) (hd : oi.dst = some d) (hn : d < C.nt) {W' : List ID} (hs : Step C W' oi σ v σ') (hW : ∀ x ∈ W', x ∈ W) (h : K (σ'.put d v)) : AOp C all Q W i K σ := by
 intro a w S hat hl
 obtain ⟨u, w', S', h1, h2, h3, h4⟩ := hs a w S hat
 unfold wpOp
 simp only [hi, Region.wanted, hg, if_true]
 refine .inl ?_
 unfold Oper.wp
 rcases h1 with h1 | ⟨h1, rfl⟩
 ·rw [h1]; simp only [Oper.upon, hd]; exact ⟨S', _, h2.put hn h3, h4.mono hW, h⟩
 rw [h1]; simp only [Oper.upon, hd]; exact ⟨S', _, h2.put hn h3, h4.mono hW, h⟩

theorem AOp.step0 {i : Nat} {oi : Oper} {K : St → Prop} {v : AV} {σ' : St} (hi : all[i]? = some oi) (hg : oi.guard = none) (hd : oi.dst = none) {W' : List ID} (hs : Step C W' oi σ v σ') (hW : ∀ x ∈ W', x ∈ W) (h : K σ') : AOp C all Q W i K σ := by
 intro a w S hat hl
 obtain ⟨u, w', S', h1, h2, h3, h4⟩ := hs a w S hat
 unfold wpOp
 simp only [hi, Region.wanted, hg, if_true]
 refine .inl ?_
 unfold Oper.wp
 rcases h1 with h1 | ⟨h1, rfl⟩
 ·rw [h1]; simp only [Oper.upon, hd]; exact ⟨S', _, h2, h4.mono hW, h⟩
 rw [h1]; simp only [Oper.upon, hd]; exact ⟨S', _, h2, h4.mono hW, h⟩

theorem AOp.rd {i : Nat} {oi : Oper} {K : St → Prop} {v : AV} {d : Nat} (hi : all[i]? = some oi) (hg : oi.guard = none) (hd : oi.dst = some d) (hn : d < C.nt) (hs : Rd C [] oi σ v) (h : K (σ.put d v)) : AOp C all Q W i K σ :=
 AOp.step hi hg hd hn hs.step (fun _ h => by cases h) h
theorem AOp.call {i : Nat} {o : Oper} {K : St → Prop} {d : Nat} (hi : all[i]? = some o) (hg : o.guard = none) {f : Operand} {xs : List Operand} {ts : Array TypeId}
  (hop : o.op = .call { callee := .value f, args := xs.toArray, argTypes := ts }) (hd : o.dst = some d) (hn : d < C.nt)
  {fid : FuncId} {first cap vs : List AV} (hf : oev σ.env f = some (.fn (.func fid) first cap)) (hx : oevs σ.env xs = some vs) (hok : (first ++ (vs ++ cap)).all argok = true)
  (hT : ∀ x ∈ upsOf (tch (first ++ (vs ++ cap))), C.S0.fz x = false) (hW : ∀ x ∈ tch (first ++ (vs ++ cap)), x ∈ W)
  {R : Out → Heap → Nat → Prop} (hc : ACalls C.P fid (first ++ (vs ++ cap)) (C.heap σ) σ.tk R)
  (h : CallK C σ (fun σ' v => K (σ'.put d v)) (fun σ' v => Q (.pan v) { σ' with env := [] }) R) : AOp C all Q W i K σ := by
 intro a w S hat hl
 have hTT : ∀ x, C.S0.fz x = true → tfz (tch (first ++ (vs ++ cap))) (.up x) = true := fun x hx => decide_eq_true fun hm => by
  rw [hT x (mem_upsOf hm)] at hx; cases hx
 unfold wpOp
 simp only [hi, Region.wanted, hg, if_true]
 refine .inl (call_wp hat hop hf hx hok hc (fun v u S' q1 q2 q3 q4 => ?_) (fun v u S' q1 q2 q3 q4 => ?_) (fun ob u S' _ _ _ q => absurd q (h.2.2 _ _ _)))
 ·obtain ⟨σ', e1, e2, e3, e4, hr⟩ := h.1 v _ _ q4
  have hat' := (hat.fz (tfz (tch (first ++ (vs ++ cap))))).called q1 hTT q2 e2.symm e3.symm e1 e4
  rw [hd]
  exact ⟨S', _, hat'.put hn (.clo q3), (keep_call hat q1).mono hW, hr⟩
 obtain ⟨σ', e1, e2, e3, e4, hr⟩ := h.2.1 v _ _ q4
 have hat' := (hat.fz (tfz (tch (first ++ (vs ++ cap))))).called q1 hTT q2 e2.symm e3.symm e1 e4
 exact ⟨S', { σ' with env := [] }, v, u, rfl, hat'.weaken [] (fun i v hv => by simp [look] at hv), rfl, q3, hr⟩

end

end Go.Am

/- The abstract memory logic, twenty-first part: leaving blocks, makeSlice, places at an index that is not known. -/
namespace Go.Am
open Go

theorem ltb {a b : Nat} (h : Nat.ble (a + 1) b = true) : a < b := Nat.le_of_ble_eq_true h
theorem leb {a b : Nat} (h : Nat.ble a b = true) : a ≤ b := Nat.le_of_ble_eq_true h

def exitTo (id : Nat) : List AItem → Option (List AItem)
 | [] => none
 | .blk j :: ks => match Nat.beq id j with
  | true => some ks
  | false => exitTo id ks
 | .loop _ :: ks => exitTo id ks
 | .code _ :: ks => exitTo id ks
 | .ops _ _ :: ks => exitTo id ks

theorem run_exit_at {C : Ctx} {Q : AEx → St → Prop} {σ : St} {id : Nat} : ∀ {ks ks' : List AItem}, exitTo id ks = some ks' → Run C Q ks' .normal σ → Run C Q ks (.exit id) σ
 | [], ks', h, _ => by cases h
 | .blk j :: ks, ks', h, hr => by
  unfold exitTo at h
  unfold Run
  split at h
  ·rename_i hb
   cases h
   rw [hb]; exact hr
  rename_i hb
  rw [hb]; exact run_exit_at h hr
 | .loop _ :: ks, ks', h, hr => by
  show Run C Q ks (.exit id) σ
  exact run_exit_at h hr
 | .code _ :: ks, ks', h, hr => by
  show Run C Q ks (.exit id) σ
  exact run_exit_at h hr
 | .ops _ _ :: ks, ks', h, hr => by
  show Run C Q ks (.exit id) σ
  exact run_exit_at h hr

theorem run_exit_to {C : Ctx} {Q : AEx → St → Prop} {σ : St} {id : Nat} {ks ks' : List AItem} (h : exitTo id ks = some ks') (hr : Run C Q ks' .normal σ) : Run C Q (.code (.exit id) :: ks) .normal σ := run_exit (run_exit_at h hr)

theorem run_ret_at {C : Ctx} {Q : AEx → St → Prop} {σ : St} (h : Q .ret σ) : ∀ {ks : List AItem}, Run C Q ks .ret σ
 | [] => h
 | .blk _ :: ks => by show Run C Q ks .ret σ; exact run_ret_at h
 | .loop _ :: ks => by show Run C Q ks .ret σ; exact run_ret_at h
 | .code _ :: ks => by show Run C Q ks .ret σ; exact run_ret_at h
 | .ops _ _ :: ks => by show Run C Q ks .ret σ; exact run_ret_at h

theorem run_ret_to {C : Ctx} {Q : AEx → St → Prop} {σ : St} {ks : List AItem} (h : Q .ret σ) : Run C Q (.code .ret :: ks) .normal σ := run_ret (run_ret_at h)

theorem run_pan_at {C : Ctx} {Q : AEx → St → Prop} {σ : St} {v : AV} (h : Q (.pan v) σ) : ∀ {ks : List AItem}, Run C Q ks (.pan v) σ
 | [] => h
 | .blk _ :: ks => by show Run C Q ks (.pan v) σ; exact run_pan_at h
 | .loop _ :: ks => by show Run C Q ks (.pan v) σ; exact run_pan_at h
 | .code _ :: ks => by show Run C Q ks (.pan v) σ; exact run_pan_at h
 | .ops _ _ :: ks => by show Run C Q ks (.pan v) σ; exact run_pan_at h

def RetN (O : Heap) (v : AV) (tk'' : Nat) (out : Out) (O' : Heap) (tk' : Nat) : Prop := O' = O ∧ out = .ret v ∧ tk' = tk''

theorem callK_retN {C : Ctx} {σ : St} {K KP : St → AV → Prop} {v : AV} {tk'' : Nat} (h : K ⟨σ.env, σ.l, σ.b, σ.O, tk''⟩ v) : CallK C σ K KP (RetN (C.heap σ) v tk'') :=
 ⟨fun v' O' tk' ⟨h1, h2, h3⟩ => by cases h2; exact ⟨⟨σ.env, σ.l, σ.b, σ.O, tk''⟩, rfl, h1.symm, h3.symm, rfl, h⟩, fun v O' tk' ⟨_, h2, _⟩ => (by cases h2), fun ob O' tk' ⟨_, h2, _⟩ => (by cases h2)⟩

def alenD (d : TypeDesc) (H : Heap) (p : AV) : Option AV := match d with
 | .string => match p with
  | .str s => some (.int .i64 s.size)
  | _ => none
 | .slice _ => match p with
  | .imm _ _ _ es => some (.int .i64 es.length)
  | .osl x => match H x with
   | some o => some (.int .i64 o.es.length)
   | none => none
  | _ => none
 | _ => none

theorem len_step {C : Ctx} {Γ : TTab} (hG : GOK C.P Γ) {σ : St} {o : Oper} {T : TypeId} {x : Operand} (ho : o.op = .call { callee := .builtin .len, args := #[x], argTypes := #[T] }) {p v : AV} (hx : oev σ.env x = some p)
  {i : TI} (hT : look T Γ = some i) (h : alenD i.desc (C.heap σ) p = some v) : Pu C o σ v := by
 unfold alenD at h
 split at h
 ·rename_i hd
  split at h
  ·exact alen_step hG ho hx hT (.inl ⟨hd, _, rfl⟩) (by simpa [alen', alen] using h)
  cases h
 ·rename_i e hd
  split at h
  ·exact alen_step hG ho hx hT (.inr ⟨⟨e, hd⟩, fun ⟨_, h⟩ => by cases h⟩) (by simpa [alen', alen] using h)
  ·rename_i x
   exact alen_step hG ho hx hT (.inr ⟨⟨e, hd⟩, fun ⟨_, h⟩ => by cases h⟩) (by unfold alen'; simp only; cases hh : C.heap σ x <;> rw [hh] at h <;> exact h)
  cases h
 cases h

theorem aindex_imm {H : Heap} {n tok sz : Nat} {full : Bool} {es : List (List AV)} {e : List AV} (h : es[n]? = some e) : aindex H n (.imm tok sz full es) = some (.cptr e) := by
 unfold aindex; simp only [h]
theorem aindex_osl {H : Heap} {n : Nat} {x : ID} {o : Obj} (ho : H x = some o) (h : n < o.es.length) : aindex H n (.osl x) = some (.optr x n 0) := by
 simp [aindex, ho, h]

theorem setF_all : ∀ {cs l : List AV}, (∀ v ∈ cs, force v = some v) → cs.length = l.length → setF 0 cs l = some cs
 | [], [], _, _ => rfl
 | [], _ :: _, _, h => by cases h
 | _ :: _, [], _, h => by cases h
 | c :: cs, x :: l, h, hl => by
  unfold setF
  simp only [h c (List.mem_cons_self ..), setF_all (fun x hx => h x (List.mem_cons_of_mem _ hx)) (show cs.length = l.length by simpa using hl)]

theorem setE_whole : ∀ {es : List (List AV)} {n : Nat} {cs e : List AV}, es[n]? = some e → setF 0 cs e = some cs → setE n 0 cs es = some (es.set n cs)
 | [], n, cs, e, he, _ => by cases n <;> cases he
 | [e0], 0, cs, e, he, h => by
  cases he
  unfold setE
  simp only [h]
  rfl
 | [e0], n + 1, cs, e, he, _ => by cases n <;> cases he
 | e0 :: e1 :: r, 0, cs, e, he, h => by
  cases he
  unfold setE
  simp only [List.getElem?_cons_zero, h]
 | e0 :: e1 :: r, n + 1, cs, e, he, h => by
  unfold setE
  simp only [he, h]

theorem astore_row {env : List (Nat × AV)} {l : List (Nat × Obj)} {b : List Obj} {O : Heap} {tk k n : Nat} {o : Obj} {cs : List AV} (hk : look k l = some o) {e : List AV} (he : o.es[n]? = some e) (hl : cs.length = e.length) (hf : ∀ v ∈ cs, force v = some v) (hc : cs.all cl = true)
  {es' : List (List AV)} (hes : o.es.set n cs = es') :
  astore ⟨env, l, b, O, tk⟩ (.optr (.loc k) n 0) cs = some ⟨env, setl k ⟨o.ty, o.sz, o.box, es'⟩ l, b, O, tk⟩ := by
 have : setE n 0 cs o.es = some (o.es.set n cs) := setE_whole he (setF_all hf hl)
 simp [astore, hk, this, hc, hes]

theorem madeCells_get (zc : Array Value) {n k : Nat} (hk : k < n) (hz : 0 < zc.size) : (madeCells zc n)[k]? = some (zc.getD (k % zc.size) undef) := by
 have : k % zc.size < zc.size := Nat.mod_lt _ hz
 simp [madeCells, hk, Array.getD, this, getElem!_pos]

theorem makeSlice_step {C : Ctx} {Γ : TTab} (hG : GOK C.P Γ) {σ : St} {o : Oper} {T e : TypeId} {x y : Operand} (ho : o.op = .makeSlice T x y) {i ie : TI} (hT : look T Γ = some i) (hd : i.desc = .slice e) (he : look e Γ = some ie)
  {d : Nat} (hfree : look d σ.l = none) {k k' : IntKind} {n : Nat} (hx : oev σ.env x = some (.int k n)) (hy : oev σ.env y = some (.int k' n)) (hb : ie.bytes * n ≤ 281474976710656) (hm : n ≤ maxLen) :
  Step C [] o σ (.osl (.loc d)) ⟨σ.env, (d, ⟨e, ie.size, false, List.replicate n ie.zero⟩) :: σ.l, σ.b, σ.O, σ.tk⟩ := by
 intro a w S hat
 have hwS := hat.w
 subst hwS
 have hU := (hG T i hT).und
 rw [hd] at hU
 have hE := hG e ie he
 obtain ⟨ti, z, z1, z2, z3, z4, z5, z6⟩ := zero_rep hE S
 have ux := rep_int (oev_rep hat hx)
 have uy := rep_int (oev_rep hat hy)
 have hpos := hE.pos
 have hzs : z.cells.size = ie.size := by rw [z5, hE.zl]
 have hsize : (madeCells z.cells (n * ie.size)).size = n * ie.size := by simp [madeCells]
 obtain ⟨S', hat', hmov, hβ, hO⟩ := hat.add hfree ⟨e, ie.size, false, List.replicate n ie.zero⟩ (madeCells z.cells (n * ie.size)) (by rw [hsize]; simp) (fun h => by cases h)
  (fun l hl => by rw [List.eq_of_mem_replicate hl]; exact hE.zl) (fun i l j v hi hj => by
   have hin : i < n := by have := (List.getElem?_eq_some_iff.1 hi).1; simpa using this
   have hl : l = ie.zero := by rw [List.getElem?_replicate, if_pos hin] at hi; cases hi; rfl
   subst hl
   have hjs : j < ie.size := by rw [← hE.zl]; exact (List.getElem?_eq_some_iff.1 hj).1
   obtain ⟨q1, u, q2, q3⟩ := z6 j v hj
   have hml := Nat.mul_le_mul_right ie.size (show i + 1 ≤ n from hin)
   rw [Nat.add_mul, Nat.one_mul] at hml
   refine ⟨q1, u, ?_, .clo q3, fun _ => q3⟩
   show (madeCells z.cells (n * ie.size))[i * ie.size + j]? = some u
   rw [madeCells_get z.cells (by omega) (by omega), hzs, Nat.mul_comm, Nat.mul_add_mod, Nat.mod_eq_of_lt hjs]
   simp [q2]) _ (.inr rfl)
 refine ⟨.slice (some ⟨S.w.heap.size, 0, none⟩) n n, _, S', .inl ?_, hat', ?_, keep_alloc hmov (.inl hat'.w)⟩
 ·have hrun := run_make (P := C.P) S.w T e ti z hU z1 z4 k k' (n : Int) (n : Int) (by omega) (by omega) (by rw [z3, ← Int.natCast_mul]; exact Int.ofNat_le.2 hb) (by have : maxLen = 9223372036854775807 := rfl; omega)
  rw [z2] at hrun
  simp only [Int.toNat_natCast] at hrun
  unfold execOp
  simp only [ho, ux, uy, Sem.run_bind, hrun, Result.andThen_ok, Sem.run_pure]
 have := Rep.osl (S := S') (.loc d) _ n _ hO rfl (by rw [hβ, hat'.w]; exact heap_alloc_new S.w _) hsize (by simp) hm
 simpa [hβ] using this

end Go.Am

/- The abstract memory logic, twenty-second part: slicing. -/
namespace Go.Am
open Go

theorem append_step' {C : Ctx} {Γ : TTab} (hG : GOK C.P Γ) {σ : St} {op : Oper} {T e : TypeId} {x y : Operand} (ho : op.op = .call { callee := .builtin .append, args := #[x, y], argTypes := #[T, T] })
  {i ie : TI} (hT : look T Γ = some i) (hd : i.desc = .slice e) (he : look e Γ = some ie) {k : Nat} {o : Obj} {q : AV} {es2 : List (List AV)} (hx : oev σ.env x = some (.osl (.loc k))) (hy : oev σ.env y = some q)
  (hk : look k σ.l = some o) (hb : o.box = false) (hty : o.ty = e) (hsz : o.sz = ie.size) (hq : elems σ q = some es2) (hes2 : ∀ e ∈ es2, e.length = ie.size)
  (hlen : (o.es.length + es2.length) * ie.bytes ≤ 140737488355328) (hm : o.es.length + es2.length ≤ 140737488355328) {es' : List (List AV)} (hes : o.es ++ es2 = es') :
  Step C [.loc k] op σ (.osl (.loc k)) ⟨subE k .jnk σ.env, setl k ⟨o.ty, o.sz, o.box, es'⟩ (subO k .jnk σ.l), σ.b, σ.O, σ.tk⟩ := by
 subst hes
 exact append_step hG ho hT hd he hx hy hk hb hty hsz hq hes2 hlen hm

end Go.Am

/- The abstract memory logic, twenty-third part: guarded operations, results that are pointers to new memory, calls that write into one object. -/
namespace Go.Am
open Go

theorem rep_undef {S : Sit} : Rep S (.tup []) undef := .clo (.tup [] #[] rfl (fun j x h => by simp at h))

def OnG (all : Array Oper) (σ : St) (o : Oper) (b : Bool) : Prop := ∃ j want i, o.guard = some (j, want) ∧ (all[j]?).bind (·.dst) = some i ∧ ((∃ v, look i σ.env = some (.bool v) ∧ (v == want) = b) ∨ look i σ.env = some (.tup []) ∧ b = false)

theorem on_of {all : Array Oper} {σ : St} {o : Oper} {j : Nat} {want : Bool} {i : Nat} {v b : Bool} (hg : o.guard = some (j, want)) (hj : (all[j]?).bind (·.dst) = some i) (hv : look i σ.env = some (.bool v)) (hb : (v == want) = b) : OnG all σ o b := ⟨j, want, i, hg, hj, .inl ⟨v, hv, hb⟩⟩
theorem off_un {all : Array Oper} {σ : St} {o : Oper} {j : Nat} {want : Bool} {i : Nat} (hg : o.guard = some (j, want)) (hj : (all[j]?).bind (·.dst) = some i) (hv : look i σ.env = some (.tup [])) : OnG all σ o false := ⟨j, want, i, hg, hj, .inr ⟨hv, rfl⟩⟩

theorem wanted_on {C : Ctx} {σ : St} {a : Act} {w : World} {S : Sit} (hat : At C σ a w S) {all : Array Oper} {o : Oper} {b : Bool} (h : OnG all σ o b) : Region.wanted o (yielded all a.tmps) = b := by
 obtain ⟨j, want, i, hg, hj, h⟩ := h
 rcases h with ⟨v, hv, hb⟩ | ⟨hv, hb⟩
 ·obtain ⟨u, hu, hr⟩ := hat.env i _ hv
  have := rep_bool hr
  subst this
  subst hb
  unfold Region.wanted yielded
  simp only [hg, hj, Option.bind_some, hu]
  cases v <;> cases want <;> rfl
 obtain ⟨u, hu, hr⟩ := hat.env i _ hv
 obtain ⟨us, rfl, _, _⟩ := rep_tup hr
 subst hb
 unfold Region.wanted yielded
 simp only [hg, hj, Option.bind_some, hu]
 cases want <;> rfl

section
variable {C : Ctx} {Q : AEx → St → Prop} {ks : List AItem} {σ σ' : St} {all : Array Oper} {o : Oper} {rest : List Oper}

theorem run_opG {v : AV} {d : Nat} {W : List ID} (hg : OnG all σ o true) (hs : Step C W o σ v σ') (hd : o.dst = some d) (hn : d < C.nt)
  (h : Run C Q (.ops all rest :: ks) .normal (σ'.put d v)) : Run C Q (.ops all (o :: rest) :: ks) .normal σ := by
 intro a w S hat
 refine wpList_step fun K hK => ?_
 rw [if_pos (wanted_on hat hg)]
 obtain ⟨u, w', S', h1, hat', hr, _⟩ := hs a w S hat
 have hk := hK _ _ (h _ _ _ (hat'.put hn hr))
 unfold Oper.wp
 rcases h1 with h1 | ⟨h1, rfl⟩
 ·rw [h1]; simp only [Oper.upon, hd]; exact hk
 rw [h1]; simp only [Oper.upon, hd]; exact hk
theorem run_puG {v : AV} {d : Nat} (hg : OnG all σ o true) (hs : Pu C o σ v) (hd : o.dst = some d) (hn : d < C.nt) (h : Run C Q (.ops all rest :: ks) .normal (σ.put d v)) : Run C Q (.ops all (o :: rest) :: ks) .normal σ := run_opG hg hs.step hd hn h
theorem run_rdG {v : AV} {d : Nat} (hg : OnG all σ o true) (hs : Rd C [] o σ v) (hd : o.dst = some d) (hn : d < C.nt) (h : Run C Q (.ops all rest :: ks) .normal (σ.put d v)) : Run C Q (.ops all (o :: rest) :: ks) .normal σ := run_opG hg hs.step hd hn h

theorem run_off {d : Nat} (hg : OnG all σ o false) (hd : o.dst = some d) (hn : d < C.nt) (h : Run C Q (.ops all rest :: ks) .normal (σ.put d (.tup []))) : Run C Q (.ops all (o :: rest) :: ks) .normal σ := by
 intro a w S hat
 refine wpList_step fun K hK => ?_
 rw [if_neg (by rw [wanted_on hat hg]; exact fun h => by cases h), hd]
 exact hK _ _ (h _ _ S (hat.put hn rep_undef))

theorem run_callG {d : Nat} (hg : OnG all σ o true) {f : Operand} {xs : List Operand} {ts : Array TypeId}
  (hop : o.op = .call { callee := .value f, args := xs.toArray, argTypes := ts }) (hd : o.dst = some d) (hn : d < C.nt)
  {fid : FuncId} {first cap vs : List AV} (hf : oev σ.env f = some (.fn (.func fid) first cap)) (hx : oevs σ.env xs = some vs) (hok : (first ++ (vs ++ cap)).all argok = true)
  (hT : ∀ x ∈ upsOf (tch (first ++ (vs ++ cap))), C.S0.fz x = false)
  {R : Out → Heap → Nat → Prop} (hc : ACalls C.P fid (first ++ (vs ++ cap)) (C.heap σ) σ.tk R)
  (h : CallK C σ (fun σ' v => Run C Q (.ops all rest :: ks) .normal (σ'.put d v)) (fun σ' v => Run C Q ks (.pan v) { σ' with env := [] }) R) : Run C Q (.ops all (o :: rest) :: ks) .normal σ := by
 intro a w S hat
 refine wpList_step fun K hK => ?_
 rw [if_pos (wanted_on hat hg)]
 have hTT : ∀ x, C.S0.fz x = true → tfz (tch (first ++ (vs ++ cap))) (.up x) = true := fun x hx => decide_eq_true fun hm => by
  rw [hT x (mem_upsOf hm)] at hx; cases hx
 refine call_wp hat hop hf hx hok hc (fun v u S' q1 q2 q3 q4 => ?_) (fun v u S' q1 q2 q3 q4 => ?_) (fun ob u S' _ _ _ q => absurd q (h.2.2 _ _ _))
 ·obtain ⟨σ', e1, e2, e3, e4, hr⟩ := h.1 v _ _ q4
  have hat' := (hat.fz (tfz (tch (first ++ (vs ++ cap))))).called q1 hTT q2 e2.symm e3.symm e1 e4
  refine hK _ _ (hr _ _ S' ?_)
  rw [hd]
  exact hat'.put hn (.clo q3)
 obtain ⟨σ', e1, e2, e3, e4, hr⟩ := h.2.1 v _ _ q4
 have hat' := (hat.fz (tfz (tch (first ++ (vs ++ cap))))).called q1 hTT q2 e2.symm e3.symm e1 e4
 exact ⟨S', { σ' with env := [] }, v, u, rfl, hat'.weaken [] (fun i v hv => by simp [look] at hv), rfl, q3, hr⟩

theorem run_split {i : Nat} {b : Bool} (hv : look i σ.env = some (.bool b)) (ht : b = true → Run C Q (.ops all rest :: ks) .normal (σ.put i (.bool true))) (hf : b = false → Run C Q (.ops all rest :: ks) .normal (σ.put i (.bool false))) :
  Run C Q (.ops all rest :: ks) .normal σ := by
 have key : ∀ v, look i σ.env = some v → Sub C σ (σ.put i v) := fun v hv a w S hat => ⟨S, by
  have := hat.weaken ((i, v) :: σ.env) (fun j x hj => by
   simp only [look] at hj
   split at hj
   ·rename_i hb; cases hj; rw [Nat.eq_of_beq_eq_true hb]; exact .inl hv
   exact .inl hj)
  exact this, rfl, rfl⟩
 cases b with
 | true => exact run_sub_ops (key _ hv) (ht rfl)
 | false => exact run_sub_ops (key _ hv) (hf rfl)

end


theorem fin_box {C : Ctx} {σ : St} {fn : Func} {t : Nat} (hrs : fn.results = #[.tmp t]) {k : Nat} {o : Obj} (ht : look t σ.env = some (.optr (.loc k) 0 0)) (hk : look k σ.l = some o) (hb : o.box = true) (hsc : ∀ e ∈ o.es, ∀ v ∈ e, sc v = true)
  {R : Out → Heap → Nat → Prop} (h : R (.box o) (C.out σ) σ.tk) : Results C fn R σ := by
 intro a w S hat
 obtain ⟨u, hu, hr⟩ := hat.env t _ ht
 have hSo : S.O (.loc k) = some o := by rw [hat.O]; exact hk
 have hu2 := rep_optr hat.sim hSo hr
 subst hu2
 obtain ⟨cur, q1, q2, q3, q4, q5⟩ := hat.sim.obj _ _ hSo
 rw [Nat.zero_mul, Nat.zero_add] at hu
 refine ⟨.pointer (some ⟨S.β (.loc k), 0, none⟩), w, S, σ, .box o, ?_, rfl, hat, ⟨S.β (.loc k), cur, rfl, hat.new k (by rw [hk]; rfl), q1, hb, (q3 hb).1, (q3 hb).2, q4, fun i e j v hi hj => ?_⟩, h⟩
 ·simp [results, hrs, Array.getD_eq_getD_getElem?, hu]
 obtain ⟨_, u, s2, s3, _⟩ := q5 i e j v hi hj
 have hv := hsc e (List.mem_of_getElem? hi) v (List.mem_of_getElem? hj)
 exact ⟨sc1_of hv, u, s2, sc_repc s3 hv⟩

theorem adopt_call {C : Ctx} {σ : St} {a : Act} {S S' : Sit} (hat : At C σ a S.w S) {d : Nat} (hfree : look d σ.l = none) {o : Obj} {u : Value} (hx : Ext { S with fz := tfz [] } S') (hr : RepOut { S with fz := tfz [] } S' (.box o) (.returned u)) :
  ∃ S'', At C ⟨σ.env, (d, o) :: σ.l, σ.b, σ.O, σ.tk⟩ a S'.w S'' ∧ Rep S'' (.optr (.loc d) 0 0) u ∧ KeepW S S'' [] ∧ S.w.heap.size ≤ S''.β (.loc d) ∧ (S''.O (.loc d)).isSome = true := by
 obtain ⟨b, cur, he, hb, hcur, hbx, h1, hsz, hes, hc⟩ := hr
 cases he
 have hkp := keep_call hat hx
 have hold : ∀ g, g < S.w.heap.size → S'.w.heap[g]? = S.w.heap[g]? := fun g hg => hkp.1.2 g hg fun x hm => by cases hm
 obtain ⟨S'', hat', hmov, hβ, hO⟩ := hat.adopt hfree o cur (by rw [h1, Nat.one_mul, hsz]; exact Nat.le_refl _) (fun _ => ⟨h1, hsz⟩) hes
  (fun i e j v hi hj => by
   obtain ⟨s1, u, s2, s3⟩ := hc i e j v hi hj
   have s4 : RepC S v u := RepC.le (S := { S with fz := tfz [] }) (S' := S) ⟨Nat.le_refl _, rfl, rfl, rfl, rfl, Nat.le_refl _, fun _ _ => rfl, fun b hb => ⟨hb, rfl⟩⟩ s3
   exact ⟨sc1_d1 s1, u, s2, .clo s4, fun _ => s4⟩) S'.w b hb hcur hold hx.size hx.os hx.tape hx.output
 refine ⟨S'', hat', ?_, keep_mov hmov fun g hg _ => by rw [hat'.w]; exact hold g hg, by rw [hβ]; exact hb, by rw [hO]; rfl⟩
 have := Rep.optr (S := S'') (.loc d) 0 0 _ hO
 simpa [hβ] using this

theorem AAny.callBox {C : Ctx} {all : Array Oper} {Q : AEx → St → Prop} {W : List ID} {fuel : Nat} {listed : Array Bool} {σ : St} {i : Nat} (hr : Region.ready .any all listed = [i]) {o : Oper} {d : Nat} (hi : all[i]? = some o) (hg : o.guard = none) {f : Operand} {xs : List Operand} {ts : Array TypeId}
  (hop : o.op = .call { callee := .value f, args := xs.toArray, argTypes := ts }) (hd : o.dst = some d) (hn : d < C.nt)
  {fid : FuncId} {first cap vs : List AV} (hf : oev σ.env f = some (.fn (.func fid) first cap)) (hx : oevs σ.env xs = some vs) (hok : (first ++ (vs ++ cap)).all argok = true) (hT : tch (first ++ (vs ++ cap)) = [])
  {R : Out → Heap → Nat → Prop} (hc : ACalls C.P fid (first ++ (vs ++ cap)) (C.heap σ) σ.tk R) (hfree : look d σ.l = none) {ob : Obj} (hR : ∀ out O' tk', R out O' tk' → out = .box ob)
  (h : AAny C all Q (.loc d :: W) fuel (listed.setIfInBounds i true) (St.put ⟨σ.env, (d, ob) :: σ.l, σ.b, σ.O, σ.tk⟩ d (.optr (.loc d) 0 0))) : AAny C all Q W (fuel + 1) listed σ := by
 intro a w S hat hl
 have hwS := hat.w
 subst hwS
 refine wpAnyH_all hr (fun h => by cases h) fun j hj => ?_
 rw [List.mem_singleton] at hj
 subst hj
 unfold wpOp
 simp only [hi, Region.wanted, hg, if_true]
 refine .inl (call_wp hat hop hf hx hok hc (fun v u S' _ _ _ q => by cases hR _ _ _ q) (fun v u S' _ _ _ q => by cases hR _ _ _ q) (fun ob' u S' q1 q2 q3 q4 => ?_))
 cases hR _ _ _ q4
 rw [hT] at q1 q3
 obtain ⟨S'', e1, e2, e3, e4, e5⟩ := adopt_call hat hfree q1 q3
 have hw := e1.w
 rw [hd, ← hw]
 rw [← hw] at e1
 have hk : Held S W S''.w := e3.1.mono fun _ h => by cases h
 have hreb : ∀ w1, Held S'' (.loc d :: W) w1 → Held S W w1 := by
  intro w1 hw1
  refine ⟨Nat.le_trans e3.1.1 hw1.1, fun b hb hW => ?_⟩
  rw [hw1.2 b (Nat.lt_of_lt_of_le hb e3.1.1) ?_]
  ·exact e3.1.2 b hb fun x hm => by cases hm
  intro x hm e
  rcases List.mem_cons.1 hm with rfl | hm
  ·omega
  rcases (e3.2 x (hl x hm)).2 with q | q
  ·exact hW x hm (q ▸ e)
  omega
 refine ⟨hk, wpAnyH_rebase hreb _ _ _ _ (h _ _ S'' (e1.put hn e2) fun x hm => ?_)⟩
 rcases List.mem_cons.1 hm with rfl | hm
 ·exact e5
 exact (e3.2 x (hl x hm)).1


end Go.Am
