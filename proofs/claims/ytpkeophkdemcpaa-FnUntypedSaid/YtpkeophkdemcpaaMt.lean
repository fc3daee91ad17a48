/- A whole element stored into a new row that is frozen, in any heap; calls that hand back a new struct. -/
import Derived.Test.YtpkeophkdemcpaaMi4
namespace Go.Am
open Go

theorem ACalls.refz {P : Program} {f : FuncId} {args : List AV} {O : Heap} {tk : Nat} {R : Out → Heap → Nat → Prop} (hb : ∃ fn c, P.funcs[f]? = some fn ∧ (fn.name == "runtime.NumGoroutine") = false ∧ fn.body = some c)
  (h : ∀ (S : Sit) (us : Array Value), S.O = O → S.tk = tk → SimH S → Inv S.B0 S.w → S.fz = tfz (tch args) → us.size = args.length → (∀ j v, args[j]? = some v → Arg S v (us.getD j undef)) →
   Calls P f us S.w fun e w' => ∃ out S', S'.w = w' ∧ SimH S' ∧ Ext S S' ∧ RepOut S S' out e ∧ R out S'.O S'.tk) : ACalls P f args O tk R := by
 refine ⟨hb, fun S us hO htk hs hinv hfz hus harg => ?_⟩
 have hargs : ∀ j v, args[j]? = some v → Arg { S with fz := tfz (tch args) } v (us.getD j undef) := by
  intro j v hj
  have := harg j v hj
  unfold Arg at this ⊢
  cases v with
  | optr => exact fz_rep _ this
  | fn => exact ⟨fz_rep _ this.1, this.2⟩
  | any => exact this
  | jnk => exact this
  | osl => exact this
  | _ => exact RepC.le (fz_le _) this
 refine (h { S with fz := tfz (tch args) } us hO htk (fz_sim _ hs) hinv rfl hus hargs).mono fun e w' ⟨out, S', q1, q2, q3, q4, q5⟩ => ?_
 have hle : Le S { S' with fz := S.fz } := ⟨q3.size, q3.os, q3.tape, q3.output, q3.B0, q3.tk, q3.tau, fun b hb => q3.con b hb⟩
 have hle1 : Le S' { S' with fz := S.fz } := fz_le _
 have hle2 : Le { S with fz := tfz (tch args) } S := ⟨Nat.le_refl _, rfl, rfl, rfl, rfl, Nat.le_refl _, fun _ _ => rfl, fun b hb => ⟨hb, rfl⟩⟩
 refine ⟨out, { S' with fz := S.fz }, q1, fz_sim _ q2, ⟨hle, fun x o hx => ?_, q3.non, q3.hid, q3.hidE, rfl, q3.fresh⟩, ?_, q5⟩
 ·obtain ⟨o', r1, r2, r3, r4, r5, r6⟩ := q3.obj x o hx
  refine ⟨o', r1, r2, r3, r4, r5, fun hb => r6 (hb.imp id fun hz => ?_)⟩
  show tfz (tch args) x = true
  refine decide_eq_true fun hm => ?_
  rw [hfz x hm] at hz; cases hz
 cases out with
 | ret v => obtain ⟨u, r1, r2⟩ := q4; exact ⟨u, r1, r2.le hle1⟩
 | pan v => obtain ⟨u, r1, r2⟩ := q4; exact ⟨u, r1, r2.le hle1⟩
 | box o =>
  obtain ⟨b, cur, r1, r2, r3, r4, r5, r6, r7, r8⟩ := q4
  exact ⟨b, cur, r1, r2, r3, r4, r5, r6, r7, fun i e j v hi hj => let ⟨a, u, b, c⟩ := r8 i e j v hi hj; ⟨a, u, b, c.le hle2⟩⟩

theorem acalls_of_run_z {P : Program} {f : FuncId} {fn : Func} {c : Code} (hf : P.funcs[f]? = some fn) (hn : (fn.name == "runtime.NumGoroutine") = false) (hb : fn.body = some c) {args : List AV} {O : Heap} {tk : Nat} {R : Out → Heap → Nat → Prop}
  (bor : List ID) (b : List Obj) (hbor : Bor O bor b) (env : List (Nat × AV)) (henv : EntEnv bor 0 args env) (hlen : args.length ≤ fn.ntmps) (hbt : ∀ x ∈ bor, x ∈ tch args) (htb : ∀ x ∈ tch args, x ∈ bor)
  (h : ∀ S0 : Sit, S0.O = O → S0.tk = tk → (∀ x ∈ tch args, S0.fz x = false) → (∀ x, x ∉ bor → S0.fz x = true) → Run ⟨P, S0, fn.ntmps, bor, fun _ => False, []⟩ (Fin ⟨P, S0, fn.ntmps, bor, fun _ => False, []⟩ fn R) [.code c] .normal ⟨env, [], b, O, tk⟩) : ACalls P f args O tk R := by
 refine ACalls.refz ⟨fn, c, hf, hn, hb⟩ fun S us hO htk hs hinv hfz hus harg => ?_
 subst hO
 subst htk
 let C : Ctx := ⟨P, S, fn.ntmps, bor, fun _ => False, []⟩
 have hfz0 : ∀ x ∈ tch args, S.fz x = false := fun x hx => by rw [hfz]; exact decide_eq_false (fun h => h hx)
 have hat : At C ⟨env, [], b, S.O, S.tk⟩ { tmps := us ++ Array.replicate (fn.ntmps - us.size) undef, defers := [] } S.w (inner S bor b) := at_enter (P := P) (nt := fn.ntmps) bor b env henv hlen hbt S hbor us hs hinv hfz0 hus harg
 refine calls_of_wp hf hb (Code.wp_mono ?_ (h S rfl rfl hfz0 (fun x hx => by rw [hfz]; exact decide_eq_true fun hm => hx (htb x hm)) _ _ _ hat))
 intro e a' w' hq
 have fin : ∀ S1 σ1, At C σ1 a' w' S1 → Results C fn R σ1 → a'.defers = [] ∧ ∃ v, (results fn a'.tmps).run P w' = .ok v w' ∧ ∃ out S', S'.w = w' ∧ SimH S' ∧ Ext S S' ∧ RepOut S S' out (.returned v) ∧ R out S'.O S'.tk := by
  intro S1 σ1 hat1 hR
  obtain ⟨u, w2, S2, σ2, out, r1, r2, r3, r4, r5⟩ := hR a' w' S1 hat1
  exact ⟨hat1.defers, u, r1, out, outer S2 (C.out σ2) C.S0.hid C.S0.fz, r3.w, out_sim r3, r3.ext.un (fun _ h => h), r4, by rw [show (outer S2 (C.out σ2) C.S0.hid C.S0.fz).tk = σ2.tk from r3.tk]; exact r5⟩
 cases e with
 | normal => obtain ⟨S1, σ1, hat1, hR⟩ := hq; exact fin S1 σ1 hat1 hR
 | ret => obtain ⟨S1, σ1, hat1, hR⟩ := hq; exact fin S1 σ1 hat1 hR
 | exit id => obtain ⟨S1, σ1, hat1, hR⟩ := hq; exact hR.elim
 | panic ch =>
  obtain ⟨S1, σ1, v, u, _, hat1, rfl, hr, hR⟩ := hq
  exact ⟨hat1.defers, .pan v, outer S1 (C.out σ1) C.S0.hid C.S0.fz, hat1.w, out_sim hat1, hat1.ext.un (fun _ h => h), ⟨u, rfl, hr.le (out_le hat1)⟩, by rw [show (outer S1 (C.out σ1) C.S0.hid C.S0.fz).tk = σ1.tk from hat1.tk]; exact hR⟩
 | goto l => exact hq
 | outgrown => exact hq.elim

theorem repc_c0 {S : Sit} {v : AV} {u : Value} (h : RepC S v u) (hc : v.c0 = true) : v.up0 = v := by
 cases h <;> first | rfl | cases hc
theorem repc_up {S : Sit} {v : AV} {u : Value} (h : RepC S v u) (hd : v.d1 = true) : v.up = v := by
 cases h with
 | fn f a b us1 us2 l1 l2 h1 h2 =>
  obtain ⟨ha, hb⟩ := fn_c0 hd
  have key : ∀ (l : List AV) (us : Array Value), (∀ j x, l[j]? = some x → RepC S x (us.getD j undef)) → allc0 l = true → l.map AV.up0 = l := by
   intro l us hl hc
   refine List.ext_getElem? fun j => ?_
   rw [List.getElem?_map]
   cases hj : l[j]? with
   | none => rfl
   | some x => simp only [Option.map_some]; rw [repc_c0 (hl j x hj) (allc0_at hc j x hj)]
  show AV.fn f (a.map AV.up0) (b.map AV.up0) = _
  rw [key a us1 h1 ha, key b us2 h2 hb]
 | _ => rfl

theorem avp_up {p : Nat → Prop} {v : AV} (h : AvP p v) : v.up = v := by cases h <;> rfl

theorem jnk_one {S : Sit} {u : Value} (h : Rep S .jnk u) : u.oneCell' = true := by
 cases h with
 | clo h => cases h
 | jnk _ h => exact h

theorem old_rep {S0 S S' : Sit} (hle : Le S0 S') (hO : ∀ x, S'.O (.up x) = S.O (.up x)) (hβ : S'.β = S.β) (hh : S'.hid = S.hid) (hw : ∀ x o, S.O (.up x) = some o → S'.w.heap[S.β (.up x)]? = S.w.heap[S.β (.up x)]?)
  {v : AV} {u : Value} (hd : v.d1 = true) (h0 : Rep S0 v u) (h : Rep S v.up u) : Rep S' v.up u := by
 have ptr : ∀ {x : ID} {i off : Nat} {u : Value}, Rep S (.optr (.up x) i off) u → Rep S' (.optr (.up x) i off) u := by
  intro x i off u h
  cases h with
  | clo h => cases h
  | optr _ _ _ o ho =>
   have := Rep.optr (S := S') (.up x) i off o (by rw [hO]; exact ho)
   rw [hβ] at this; exact this
  | hidp _ _ _ sz hs =>
   have := Rep.hidp (S := S') (.up x) i off sz (by rw [hh]; exact hs)
   rw [hβ] at this; exact this
 have c0 : ∀ {x : AV} {u : Value}, x.c0 = true → Rep S0 x u → Rep S x.up0 u → Rep S' x.up0 u := by
  intro x u hc q0 q
  cases x with
  | optr => exact ptr q
  | int => cases q0 with | clo q0 => exact .clo (q0.le hle)
  | bool => cases q0 with | clo q0 => exact .clo (q0.le hle)
  | str => cases q0 with | clo q0 => exact .clo (q0.le hle)
  | nilp => cases q0 with | clo q0 => exact .clo (q0.le hle)
  | cptr => cases q0 with | clo q0 => exact .clo (q0.le hle)
  | imm => cases q0 with | clo q0 => exact .clo (q0.le hle)
  | nilfn => cases q0 with | clo q0 => exact .clo (q0.le hle)
  | nilif => cases q0 with | clo q0 => exact .clo (q0.le hle)
  | _ => cases hc
 cases v with
 | jnk => exact .jnk u (jnk_one h0)
 | optr => exact ptr h
 | osl x =>
  cases h with
  | clo h => cases h
  | osl _ o c cur ho hb hwr hc hl hm =>
   have := Rep.osl (S := S') (.up x) o c cur (by rw [hO]; exact ho) hb (by rw [hβ, hw x o ho]; exact hwr) hc hl hm
   rw [hβ] at this; exact this
 | fn f a b =>
  obtain ⟨ha, hb⟩ := fn_c0 hd
  obtain ⟨us1, us2, rfl, l1, l2, r1, r2⟩ := rep_fn h0
  obtain ⟨vs1, vs2, e, m1, m2, s1, s2⟩ := rep_fn (f := f) (first := a.map AV.up0) (cap := b.map AV.up0) h
  simp only [Value.func.injEq] at e
  obtain ⟨_, rfl, rfl⟩ := e
  refine .fn f (a.map AV.up0) (b.map AV.up0) us1 us2 m1 m2 (fun j x hj => ?_) (fun j x hj => ?_)
  ·obtain ⟨y, hy, rfl⟩ := map_get hj
   exact c0 (allc0_at ha j y hy) (r1 j y hy) (s1 j _ hj)
  obtain ⟨y, hy, rfl⟩ := map_get hj
  exact c0 (allc0_at hb j y hy) (r2 j y hy) (s2 j _ hj)
 | int => exact c0 rfl h0 h
 | bool => exact c0 rfl h0 h
 | str => exact c0 rfl h0 h
 | nilp => exact c0 rfl h0 h
 | cptr => exact c0 rfl h0 h
 | imm => exact c0 rfl h0 h
 | nilfn => exact c0 rfl h0 h
 | nilif => exact c0 rfl h0 h
 | _ => cases hd

theorem At.turnedG {C : Ctx} {σ : St} {a : Act} {w : World} {S : Sit} (h : At C σ a w S) (hT : ∀ t, ¬ C.T t) (hO : σ.O = C.S0.O) (hz : ∀ x, x ∉ C.bor → C.S0.fz x = true) {q : Nat} (hq2 : 2 ≤ q) (hqn : C.S0.tk ≤ q) (hqs : q < S.tk)
  {w' : World} (hrest : w'.os = w.os ∧ w'.tape = w.tape ∧ w'.output = w.output) (hsize : w'.heap.size = w.heap.size) (hsame : ∀ b, b ≠ S.τ q → w'.heap[b]? = w.heap[b]?)
  {G : AV → AV → Prop} (hGc : ∀ v v', G v v' → cl v = true)
  (hG : ∀ S' : Sit, S'.w = w' → S'.τ = S.τ → S'.tk = S.tk → S'.B0 = S.B0 → (∀ b, S.con b → S'.con b) → Kp (fun t => t = q) S S' → ∀ v v', G v v' → ∀ u, RepC S v u → RepC S' v' u)
  (hb : ∀ o ∈ σ.b, ∀ e ∈ o.es, ∀ v ∈ e, AvC (fun t => t = q) v)
  {env' : List (Nat × AV)} (henv : TnE (fun t => t = q) G σ.env env') {l' : List (Nat × Obj)} (hl : TnL (fun t => t = q) G σ.l l') :
  ∃ S'', At C ⟨env', l', σ.b, σ.O, σ.tk⟩ a w' S'' := by
 have hwS := h.w
 subst hwS
 let σ' : St := ⟨env', l', σ.b, σ.O, σ.tk⟩
 let S'' : Sit := { S with w := w', O := C.heap σ' }
 have hx := h.ext.un hT
 have hloc : ∀ i, S.O (.loc i) = look i σ.l := fun i => by rw [h.O]; rfl
 have hbo : ∀ i, S''.O (.bor i) = S.O (.bor i) := fun i => by rw [h.O]; rfl
 have hup : ∀ x, S''.O (.up x) = S.O (.up x) := fun x => by rw [h.O]; rfl
 have hiff : ∀ x, (S''.O x).isSome = (S.O x).isSome := by
  intro x
  cases x with
  | loc i =>
   rw [hloc]
   show (look i l').isSome = (look i σ.l).isSome
   cases h1 : look i l' with
   | none =>
    cases h2 : look i σ.l with
    | none => rfl
    | some o => obtain ⟨o', q1, _⟩ := (hl.get i).2 o h2; rw [h1] at q1; cases q1
   | some o' => obtain ⟨o, q1, _⟩ := (hl.get i).1 o' h1; rw [q1]; rfl
  | bor i => rw [hbo]
  | up x => rw [hup]
 have hlive : ∀ b, S''.live b ↔ S.live b := fun b => ⟨fun ⟨x, h1, h2⟩ => ⟨x, by rw [← hiff]; exact h1, h2⟩, fun ⟨x, h1, h2⟩ => ⟨x, by rw [hiff]; exact h1, h2⟩⟩
 have hcon : ∀ b, S.con b → S''.con b := fun b hb => ⟨by show b < w'.heap.size; rw [hsize]; exact hb.1, fun hl => hb.2 ((hlive b).1 hl)⟩
 have hkp : Kp (fun t => t = q) S S'' := ⟨rfl, Nat.le_refl _, fun _ _ => rfl, fun b hb hn => ⟨hcon b hb, hsame b (Ne.symm (hn q rfl hq2 hqs))⟩⟩
 have hG' := hG S'' rfl rfl rfl rfl hcon hkp
 have hOs : ∀ x o, S.O x = some o → ∃ o', S''.O x = some o' ∧ o'.sz = o.sz := by
  intro x o hx'
  cases x with
  | loc i => rw [hloc] at hx'; obtain ⟨o', q1, q2⟩ := (hl.get i).2 o hx'; exact ⟨o', q1, q2.sz⟩
  | bor i => exact ⟨o, by rw [hbo]; exact hx', rfl⟩
  | up x => exact ⟨o, by rw [hup]; exact hx', rfl⟩
 have htn : ∀ {v v' : AV}, Tn (fun t => t = q) G v v' → ∀ {u : Value}, Rep S v u → Rep S'' v' u := fun hv _ hr => Rep.tn hkp h.sim hG' hGc hOs rfl rfl hv hr
 have hnl : ∀ x, (S.O x).isSome = true → S.β x ≠ S.τ q := fun x hx' e => (h.sim.tok q hq2 hqs).2.1 ⟨x, hx', e⟩
 have hblk : ∀ x o, S.O x = some o → w'.heap[S.β x]? = S.w.heap[S.β x]? := fun x o ho => hsame _ (hnl x (by rw [ho]; rfl))
 have hfresh : C.S0.w.heap.size ≤ S.τ q := hx.fresh q hqn hqs
 -- the oldest memory
 have hcon0 : ∀ b, C.S0.con b → S.con b ∧ S.w.heap[b]? = C.S0.w.heap[b]? := by
  intro b hb0
  obtain ⟨q1, q2⟩ := hx.con b hb0
  refine ⟨⟨q1.1, fun ⟨x, hx', hxb⟩ => ?_⟩, q2⟩
  cases x with
  | loc i =>
   have := h.new i (by rw [← hloc]; exact hx')
   have := hb0.1
   omega
  | bor i =>
   have hs : (σ.b[i]?).isSome = true := by
    have : S.O (.bor i) = (σ.b[i]?).map Obj.up := by rw [h.O]; rfl
    rw [this] at hx'; simpa using hx'
   obtain ⟨o, ho⟩ := Option.isSome_iff_exists.1 hs
   obtain ⟨x, hbx⟩ : ∃ x, C.bor[i]? = some x := ⟨_, List.getElem?_eq_getElem (by rw [← h.bl]; exact (List.getElem?_eq_some_iff.1 ho).1)⟩
   refine q1.2 ⟨x, ?_, ?_⟩
   ·show (C.out σ x).isSome = true
    rw [show C.out σ x = some o from OB_get h.nd h.bl hbx ho]; rfl
   show S.β (.up x) = b
   rw [← h.bb i x hbx]; exact hxb
  | up x =>
   obtain ⟨o, ho⟩ := Option.isSome_iff_exists.1 hx'
   obtain ⟨hm, p, hp, _, hout⟩ := up_obj h ho
   exact q1.2 ⟨x, by rw [hout]; rfl, hxb⟩
 have hle0 : Le C.S0 S'' := ⟨by show _ ≤ w'.heap.size; rw [hsize]; exact hx.size, hrest.1.trans hx.os, hrest.2.1.trans hx.tape, hrest.2.2.trans hx.output, hx.B0, hx.tk, hx.tau, fun b hb0 => by
  obtain ⟨q1, q2⟩ := hcon0 b hb0
  refine ⟨hcon b q1, (hsame b fun e => ?_).trans q2⟩
  have := hb0.1
  omega⟩
 refine ⟨S'', rfl, rfl, h.tk, ⟨fun x o' hx' => ?_, fun x y hx' hy' hxy => ?_, fun x hx' => ?_, fun t h1 h2 => ?_, h.sim.tinj, by show S.B0 ≤ w'.heap.size; rw [hsize]; exact h.sim.b0, fun x z hz' => ?_, h.sim.tk2⟩, fun i v' hv' => ?_, h.nt, h.defers, ?_, fun i hi => ?_, h.bl, h.nd, h.bb, h.h0, h.hl, h.hu, h.hv, h.hf, h.inv⟩
 ·cases x with
  | loc k =>
   obtain ⟨o, ho0, hto⟩ := (hl.get k).1 o' hx'
   have ho : S.O (.loc k) = some o := by rw [hloc]; exact ho0
   obtain ⟨cur, q1, q2, q3, q4, q5⟩ := h.sim.obj _ o ho
   refine ⟨cur, ?_, by rw [hto.len, hto.sz]; exact q2, fun hb => by rw [hto.len, hto.sz]; exact q3 (hto.box ▸ hb), fun e' he' => ?_, fun i e' j x' hi hj => ?_⟩
   ·show w'.heap[S.β (.loc k)]? = _
    rw [hblk _ o ho, hto.ty]; exact q1
   ·obtain ⟨i, hi⟩ := List.mem_iff_getElem?.1 he'
    have hil : i < o.es.length := by rw [← hto.len]; exact (List.getElem?_eq_some_iff.1 hi).1
    rw [hto.el i _ e' (List.getElem?_eq_getElem hil) hi, hto.sz]
    exact q4 _ (List.getElem_mem hil)
   have hil : i < o.es.length := by rw [← hto.len]; exact (List.getElem?_eq_some_iff.1 hi).1
   have hie := List.getElem?_eq_getElem hil
   have hjl : j < (o.es[i]).length := by rw [← hto.el i _ e' hie hi]; exact (List.getElem?_eq_some_iff.1 hj).1
   have hje := List.getElem?_eq_getElem hjl
   obtain ⟨r1, u, r2, r3, r4⟩ := q5 i _ j _ hie hje
   obtain ⟨t1, t2, t3⟩ := hto.cell i _ e' j _ x' hie hi hje hj
   refine ⟨t2, u, by rw [hto.sz]; exact r2, htn t1 r3, fun hb => ?_⟩
   rw [hto.box] at hb
   obtain ⟨e, hav⟩ := t3 hb
   rw [e]
   exact (r4 hb).av hkp h.sim hav
  | bor k =>
   rw [hbo] at hx'
   obtain ⟨cur, q1, q2, q3, q4, q5⟩ := h.sim.obj _ o' hx'
   refine ⟨cur, (hblk _ o' hx').trans q1, q2, q3, q4, fun i e j v hi hj => ?_⟩
   obtain ⟨r1, u, r2, r3, r4⟩ := q5 i e j v hi hj
   have hS : S.O (.bor k) = (σ.b[k]?).map Obj.up := by rw [h.O]; rfl
   rw [hS] at hx'
   obtain ⟨o, ho, rfl⟩ := Option.map_eq_some_iff.1 hx'
   have hi' : (o.es.map (·.map AV.up))[i]? = some e := hi
   rw [List.getElem?_map] at hi'
   obtain ⟨e0, he0, rfl⟩ := Option.map_eq_some_iff.1 hi'
   obtain ⟨v0, hv0, rfl⟩ := map_get hj
   have hav := hb o (List.mem_of_getElem? ho) e0 (List.mem_of_getElem? he0) v0 (List.mem_of_getElem? hv0)
   rw [avp_up hav] at r1 r3 r4 ⊢
   exact ⟨r1, u, r2, htn (.av hav) r3, fun hbx => (r4 hbx).av hkp h.sim hav⟩
  | up x =>
   rw [hup] at hx'
   obtain ⟨hm, p, hp, rfl, _⟩ := up_obj h hx'
   rw [hO] at hp
   obtain ⟨cur, q1, q2, q3, q4, q5⟩ := h.sim.obj _ _ hx'
   obtain ⟨cur0, p1, p2, p3, p4, p5⟩ := h.h0.obj x p hp
   obtain ⟨_, _, _, _, _, e5, e6⟩ := hx.obj x p hp
   have hβ : S.β (.up x) = C.S0.β x := e5
   have hcc := (e6 (.inr (hz x hm))).2
   have hcur : cur = cur0 := by
    have hq1 : S.w.heap[C.S0.β x]? = some (.cells cur p.ty (0, 0)) := by rw [← hβ]; exact q1
    rw [show (outer S (C.out σ) C.S0.hid C.S0.fz).w = S.w from rfl, hq1, p1] at hcc
    injection hcc with hcc
    injection hcc with hcc
   subst hcur
   refine ⟨cur, (hblk _ _ hx').trans q1, q2, q3, q4, fun i e j v hi hj => ?_⟩
   obtain ⟨r1, u, r2, r3, r4⟩ := q5 i e j v hi hj
   have hi' : (p.es.map (·.map AV.up))[i]? = some e := hi
   rw [List.getElem?_map] at hi'
   obtain ⟨e0, he0, rfl⟩ := Option.map_eq_some_iff.1 hi'
   obtain ⟨v0, hv0, rfl⟩ := map_get hj
   obtain ⟨s1, u0, s2, s3, s4⟩ := p5 i e0 j v0 he0 hv0
   have hu : u0 = u := by
    have r2' : cur[i * p.sz + j]? = some u := r2
    rw [r2'] at s2; exact (Option.some.inj s2).symm
   subst hu
   refine ⟨r1, u0, r2, old_rep hle0 (fun x => hup x) rfl rfl (fun x o ho => hblk _ o ho) s1 s3 r3, fun hbx => ?_⟩
   have := s4 hbx
   rw [repc_up this s1]
   exact this.le hle0
 ·exact h.sim.inj x y (by rw [← hiff]; exact hx') (by rw [← hiff]; exact hy') hxy
 ·exact h.sim.base x (by rw [← hiff]; exact hx')
 ·obtain ⟨a1, a2, a3⟩ := h.sim.tok t h1 h2
  exact ⟨by show _ < w'.heap.size; rw [hsize]; exact a1, fun hl => a2 ((hlive _).1 hl), a3⟩
 ·have := h.sim.hid x z hz'
  have q1 := hiff x
  rw [this] at q1
  cases hq : S''.O x with
  | none => rfl
  | some o => rw [hq] at q1; cases q1
 ·obtain ⟨v, hv, ht⟩ := henv.get i v' hv'
  obtain ⟨u, hu, hr⟩ := h.env i v hv
  exact ⟨u, hu, htn ht hr⟩
 ·exact h.ext.own rfl rfl rfl rfl (Nat.le_refl _) (fun _ _ => rfl) hrest.1 hrest.2.1 hrest.2.2 (by show S.w.heap.size ≤ w'.heap.size; rw [hsize]; exact Nat.le_refl _) (fun x o hx => h.h0.lt hx) (fun b hb => hsame b (by omega)) (fun t h1 h2 => absurd h1 (Nat.not_le_of_lt h2))
 exact h.new i (by rw [← hloc, ← hiff]; exact hi)

theorem run_callBox {C : Ctx} {Q : AEx → St → Prop} {ks : List AItem} {σ : St} {all : Array Oper} {o : Oper} {rest : List Oper} {d : Nat} (hg : o.guard = none) {f : Operand} {xs : List Operand} {ts : Array TypeId}
  (hop : o.op = .call { callee := .value f, args := xs.toArray, argTypes := ts }) (hd : o.dst = some d) (hn : d < C.nt)
  {fid : FuncId} {first cap vs : List AV} (hf : oev σ.env f = some (.fn (.func fid) first cap)) (hx : oevs σ.env xs = some vs) (hok : (first ++ (vs ++ cap)).all argok = true) (hT : tch (first ++ (vs ++ cap)) = [])
  {R : Out → Heap → Nat → Prop} (hc : ACalls C.P fid (first ++ (vs ++ cap)) (C.heap σ) σ.tk R) (hfree : look d σ.l = none) {ob : Obj} (hR : ∀ out O' tk', R out O' tk' → out = .box ob)
  (h : Run C Q (.ops all rest :: ks) .normal (St.put ⟨σ.env, (d, ob) :: σ.l, σ.b, σ.O, σ.tk⟩ d (.optr (.loc d) 0 0))) : Run C Q (.ops all (o :: rest) :: ks) .normal σ := by
 intro a w S hat
 have hwS := hat.w
 subst hwS
 refine wpList_plain hg fun K hK => ?_
 refine call_wp hat hop hf hx hok hc (fun v u S' _ _ _ q => by cases hR _ _ _ q) (fun v u S' _ _ _ q => by cases hR _ _ _ q) (fun ob' u S' q1 q2 q3 q4 => ?_)
 cases hR _ _ _ q4
 rw [hT] at q1 q3
 obtain ⟨S'', e1, e2, e3, e4, e5⟩ := adopt_call hat hfree q1 q3
 have hw := e1.w
 refine hK _ _ ?_
 rw [hd]
 exact h _ _ S'' (e1.put hn e2)

theorem acalls_box3 {P : Program} {f : FuncId} {O : Heap} {tk : Nat} {T : TypeId} {q : Nat} {fl : Bool} {es : List (List AV)} {a b : Int}
  (hb : ∃ fn c, P.funcs[f]? = some fn ∧ (fn.name == "runtime.NumGoroutine") = false ∧ fn.body = some c)
  (h : ∀ (w : World) (ad : Option Addr) (c : Nat), Calls P f #[.slice ad es.length c] w fun e w' => e = .returned (.pointer (some ⟨w.heap.size, 0, none⟩)) ∧ w' = w.alloc (.cells #[.slice ad es.length c, .int .i64 a, .int .i64 b] T)) :
  ACalls P f [.imm q 1 fl es] O tk (fun out _ _ => out = .box ⟨T, 3, true, [[.imm q 1 fl es, .int .i64 a, .int .i64 b]]⟩) := by
 refine ⟨hb, fun S us h1 h2 h3 _ _ h4 h5 => ?_⟩
 have r0 : RepC S (.imm q 1 fl es) (us.getD 0 undef) := h5 0 _ rfl
 obtain ⟨ad, c, hu⟩ := repc_imm_len r0
 have hus : us = #[.slice ad es.length c] := by
  obtain ⟨l⟩ := us
  match l, h4 with
  | [x], _ => simp at hu; rw [hu]
 rw [hu] at r0
 rw [hus]
 refine (h S.w ad c).mono fun e w' ⟨q1, q2⟩ => ?_
 have hcell : w'.heap[S.w.heap.size]? = some (.cells #[.slice ad es.length c, .int .i64 a, .int .i64 b] T (0, 0)) := by rw [q2]; exact Array.getElem?_push_size
 have hold : ∀ b, b < S.w.heap.size → w'.heap[b]? = S.w.heap[b]? := fun b hb => by rw [q2]; exact RowKit.Below.heap_alloc _ _ _ hb
 have hsz : S.w.heap.size ≤ w'.heap.size := by rw [q2]; simp
 have hle : Le S { S with w := w' } := ⟨hsz, by rw [q2]; rfl, by rw [q2]; rfl, by rw [q2]; rfl, rfl, Nat.le_refl _, fun _ _ => rfl, fun b hb => ⟨⟨Nat.lt_of_lt_of_le hb.1 hsz, hb.2⟩, hold b hb.1⟩⟩
 have hx : Ext S { S with w := w' } := ⟨hle, fun x o ho => ⟨o, ho, rfl, rfl, rfl, rfl, fun _ => ⟨rfl, hold _ (h3.lt ho)⟩⟩, fun _ h => h, fun _ _ h => ⟨h, rfl⟩, rfl, rfl, fun t t1 t2 => absurd t1 (Nat.not_le_of_lt t2)⟩
 refine ⟨.box ⟨T, 3, true, [[.imm q 1 fl es, .int .i64 a, .int .i64 b]]⟩, { S with w := w' }, rfl, ⟨fun x o ho => ?_, h3.inj, h3.base, fun t t1 t2 => ?_, h3.tinj, Nat.le_trans h3.b0 hsz, h3.hid, h3.tk2⟩, hx,
  ⟨S.w.heap.size, _, q1, Nat.le_refl _, hcell, rfl, rfl, rfl, fun e he => ?_, fun i e j v hi hj => ?_⟩, rfl⟩
 ·obtain ⟨cur, a1, a2, a3, a4, a5⟩ := h3.obj x o ho
  exact ⟨cur, (hold _ (h3.lt ho)).trans a1, a2, a3, a4, fun i e j v hi hj => let ⟨b1, u, b2, b3, b4⟩ := a5 i e j v hi hj; ⟨b1, u, b2, b3.ext hx, fun q => (b4 q).le hle⟩⟩
 ·obtain ⟨a1, a2, a3⟩ := h3.tok t t1 t2
  exact ⟨Nat.lt_of_lt_of_le a1 hsz, a2, a3⟩
 ·rw [List.mem_singleton] at he; subst he; rfl
 match i, hi with
 | 0, hi =>
  cases hi
  match j, hj with
  | 0, hj => cases hj; exact ⟨rfl, _, rfl, r0⟩
  | 1, hj => cases hj; exact ⟨rfl, _, rfl, .int _ _⟩
  | 2, hj => cases hj; exact ⟨rfl, _, rfl, .int _ _⟩

theorem AOp.callG {C : Ctx} {all : Array Oper} {Q : AEx → St → Prop} {W : List ID} {σ : St} {i : Nat} {o : Oper} {K : St → Prop} {d : Nat} (hi : all[i]? = some o) (hg : OnG all σ o true) {f : Operand} {xs : List Operand} {ts : Array TypeId}
  (hop : o.op = .call { callee := .value f, args := xs.toArray, argTypes := ts }) (hd : o.dst = some d) (hn : d < C.nt)
  {fid : FuncId} {first cap vs : List AV} (hf : oev σ.env f = some (.fn (.func fid) first cap)) (hx : oevs σ.env xs = some vs) (hok : (first ++ (vs ++ cap)).all argok = true)
  (hT : ∀ x ∈ upsOf (tch (first ++ (vs ++ cap))), C.S0.fz x = false) (hW : ∀ x ∈ tch (first ++ (vs ++ cap)), x ∈ W)
  {R : Out → Heap → Nat → Prop} (hc : ACalls C.P fid (first ++ (vs ++ cap)) (C.heap σ) σ.tk R)
  (h : CallK C σ (fun σ' v => K (σ'.put d v)) (fun σ' v => Q (.pan v) { σ' with env := [] }) R) : AOp C all Q W i K σ := by
 intro a w S hat hl
 have hTT : ∀ x, C.S0.fz x = true → tfz (tch (first ++ (vs ++ cap))) (.up x) = true := fun x hx => decide_eq_true fun hm => by
  rw [hT x (mem_upsOf hm)] at hx; cases hx
 unfold wpOp
 simp only [hi, wanted_on hat hg, if_true]
 refine .inl (call_wp hat hop hf hx hok hc (fun v u S' q1 q2 q3 q4 => ?_) (fun v u S' q1 q2 q3 q4 => ?_) (fun ob u S' _ _ _ q => absurd q (h.2.2 _ _ _)))
 ·obtain ⟨σ', e1, e2, e3, e4, hr⟩ := h.1 v _ _ q4
  have hat' := (hat.fz (tfz (tch (first ++ (vs ++ cap))))).called q1 hTT q2 e2.symm e3.symm e1 e4
  rw [hd]
  exact ⟨S', _, hat'.put hn (.clo q3), (keep_call hat q1).mono hW, hr⟩
 obtain ⟨σ', e1, e2, e3, e4, hr⟩ := h.2.1 v _ _ q4
 have hat' := (hat.fz (tfz (tch (first ++ (vs ++ cap))))).called q1 hTT q2 e2.symm e3.symm e1 e4
 exact ⟨S', { σ' with env := [] }, v, u, rfl, hat'.weaken [] (fun i v hv => by simp [look] at hv), rfl, q3, hr⟩

theorem rem_ne {k : IntKind} {a b : Int} (h : b ≠ 0) : abin .rem (.int k a) (.int k b) = some (.int k (a.tmod b)) := by
 simp only [abin, arI, decide_eq_true_eq, decide_true, if_true, h, decide_false]
theorem build_new {C : Ctx} {Γ : TTab} (hG : GOK C.P Γ) {σ : St} {op : Oper} {T e : TypeId} {n : Nat} {ps : List (Nat × Operand)} (ho : op.op = .buildSlice T n ps.toArray) {i ie : TI} (hT : look T Γ = some i) (hd : i.desc = .slice e)
  (he : look e Γ = some ie) {d : Nat} (hfree : look d σ.l = none) {vs : List (Nat × AV)} (hv : oevp σ.env ps = some vs) {es : List (List AV)} (h : abs ie.size 0 vs = some es) (hn : es.length = n) (hsm : n * ie.size ≤ 16777216) (h0 : n ≠ 0) {a : Act} {w : World} {S : Sit} (hat : At C σ a w S) :
  ∃ u w' S', (execOp a.eval op).run C.P w = .ok (.value u) w' ∧ At C ⟨σ.env, (d, ⟨e, ie.size, false, es⟩) :: σ.l, σ.b, σ.O, σ.tk⟩ a w' S' ∧ Rep S' (.osl (.loc d)) u ∧ KeepW S S' [] ∧ S.w.heap.size ≤ S'.β (.loc d) ∧ (S'.O (.loc d)).isSome = true := by
 have hwS := hat.w
 subst hwS
 have hU := (hG T i hT).und
 rw [hd] at hU
 have hE := hG e ie he
 obtain ⟨ti, z, z1, z2, z3, z4, z5, z6⟩ := zero_rep hE S
 obtain ⟨v1, v2⟩ := oevp_rep hat hv
 have hvl : vs.length = es.length := by
  obtain ⟨g1, _⟩ := abs_rep (S := S) (us := ps.map fun x => (x.1, a.eval x.2)) (ucells := Array.replicate ((0 + vs.length) * ie.size) undef) h v1 v2 (by simp)
  exact g1.symm
 have hmaxn : n ≤ maxLen := by
  have hp := hE.pos
  have := Nat.le_mul_of_pos_right n hp
  have : n ≤ 16777216 := by omega
  exact Nat.le_trans this (by unfold maxLen; decide)
 have hpos : 0 < n * ie.size := Nat.mul_pos (Nat.pos_of_ne_zero h0) hE.pos
 have hzs : (Array.map (fun x => z.cells[x % z.cells.size]!) (Array.range (n * ie.size))).size = n * ie.size := by simp
 obtain ⟨g1, g2, out, g3, g4, g5, g6⟩ := abs_rep (S := S) (us := ps.map fun x => (x.1, a.eval x.2)) (ucells := (Array.range (n * ie.size)).map (z.cells[· % z.cells.size]!)) h v1 v2 (by rw [hzs, hvl, hn, Nat.zero_add]; exact Nat.le_refl _)
 rw [hzs] at g4
 obtain ⟨S', hat', hmov, hβ, hO⟩ := hat.add hfree ⟨e, ie.size, false, es⟩ out (by rw [g4, hn]; exact Nat.le_refl _) (fun h => by cases h) g2 (fun i e j v hi hj => by
  obtain ⟨t1, u, t2, t3⟩ := g6 i e j v hi hj
  rw [Nat.zero_add] at t2
  exact ⟨cl_d1 t1, u, t2, .clo t3, fun _ => t3⟩) _ (.inr rfl)
 refine ⟨.slice (some ⟨S.w.heap.size, 0, none⟩) n n, _, S', ?_, hat', ?_, keep_alloc hmov (.inl hat'.w), by rw [hβ]; exact Nat.le_refl _, by rw [hO]; rfl⟩
 ·have hrun := run_buildSlice (P := C.P) S.w T e n (ps.toArray.map fun x => (x.1, a.eval x.2)) out ti z hU z1 z4 (by rw [z2]; omega) (by rw [z2]; omega) (by rw [z2]; simpa using g3)
  unfold execOp
  simp only [ho, Sem.run_bind, hrun, Result.andThen_ok, Sem.run_pure]
 have := Rep.osl (S := S') (.loc d) _ n _ hO rfl (by rw [hβ, hat'.w]; exact heap_alloc_new S.w _) g4 (by rw [hn]; exact Nat.le_refl _) hmaxn
 simpa [hβ, hn] using this

theorem AOpN.build {C : Ctx} {all : Array Oper} {Q : AEx → St → Prop} {W : List ID} {fuel : Nat} {listed : Array Bool} {σ : St} {Γ : TTab} (hG : GOK C.P Γ) {i : Nat} {o : Oper} {d : Nat} (hi : all[i]? = some o) (hg : o.guard = none) (hd : o.dst = some d) (hn : d < C.nt) {T e : TypeId} {n : Nat} {ps : List (Nat × Operand)} (ho : o.op = .buildSlice T n ps.toArray)
  {ti ie : TI} (hT : look T Γ = some ti) (hds : ti.desc = .slice e) (he : look e Γ = some ie) (hfree : look d σ.l = none) {vs : List (Nat × AV)} (hv : oevp σ.env ps = some vs) {es : List (List AV)} (ha : abs ie.size 0 vs = some es) (hln : es.length = n) (hsm : n * ie.size ≤ 16777216 ∧ n ≠ 0)
  (h : AAny C all Q (.loc d :: W) fuel (listed.setIfInBounds i true) (St.put ⟨σ.env, (d, ⟨e, ie.size, false, es⟩) :: σ.l, σ.b, σ.O, σ.tk⟩ d (.osl (.loc d)))) : AOpN C all Q W fuel listed i σ := by
 intro a w S hat hl
 obtain ⟨u, w', S', r1, e1, e2, e3, e4, e5⟩ := build_new hG ho hT hds he hfree hv ha hln hsm.1 hsm.2 hat
 have hw := e1.w
 subst hw
 unfold wpOp
 simp only [hi, Region.wanted, hg, if_true]
 refine .inl ?_
 unfold Oper.wp
 rw [r1]
 simp only [Oper.upon, hd]
 have hreb : ∀ w1, Held S' (.loc d :: W) w1 → Held S W w1 := by
  intro w1 hw1
  refine ⟨Nat.le_trans e3.1.1 hw1.1, fun b hb hW => ?_⟩
  rw [hw1.2 b (Nat.lt_of_lt_of_le hb e3.1.1) ?_]
  ·exact e3.1.2 b hb fun x hm => by cases hm
  intro x hm e
  rcases List.mem_cons.1 hm with rfl | hm
  ·omega
  rcases (e3.2 x (hl x hm)).2 with q | q
  ·exact hW x hm (q ▸ e)
  omega
 refine ⟨e3.1.mono (fun _ h => by cases h), wpAnyH_rebase hreb _ _ _ _ (h _ _ S' (e1.put hn e2) fun x hm => ?_)⟩
 rcases List.mem_cons.1 hm with rfl | hm
 ·exact e5
 exact (e3.2 x (hl x hm)).1

end Go.Am
