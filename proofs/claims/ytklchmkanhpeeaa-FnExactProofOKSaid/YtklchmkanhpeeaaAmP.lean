/- The abstract memory logic, sixteenth part: what a call does, how a function is entered and left. -/
import Derived.Test.YtklchmkanhpeeaaAmO
namespace Go.Am
open Go

inductive Out where
  | ret (v : AV)
  | pan (v : AV)
  | box (o : Obj)

/-- Values that lead to no memory. -/
def sc : AV → Bool
  | .int .. => true
  | .bool _ => true
  | .str _ => true
  | .nilp => true
  | .nilfn => true
  | .nilif => true
  | _ => false

theorem sc_repc {S S' : Sit} {v : AV} {u : Value} (h : Rep S v u) (hv : sc v = true) : RepC S' v u := by
  cases h with
  | any => cases hv
  | jnk => cases hv
  | clo h =>
    cases h with
    | int => exact .int _ _
    | bool => exact .bool _
    | str => exact .str _
    | nilp => exact .nilp
    | nilfn => exact .nilfn
    | nilif => exact .nilif
    | _ => cases hv
  | optr => cases hv
  | hidp => cases hv
  | osl => cases hv
  | fn => cases hv
  | agg => cases hv
  | tup => cases hv

/-- What is handed back stands for what the call came to. A box: new memory that nothing else names. -/
def RepOut (S S' : Sit) : Out → Ending → Prop
  | .ret v, e => ∃ u, e = .returned u ∧ RepC S' v u
  | .pan v, e => ∃ u, e = .panicked [{ v := u, recovered := false }] ∧ RepC S' v u
  | .box o, e => ∃ b, ∃ cur : Array Value, e = .returned (.pointer (some ⟨b, 0, none⟩)) ∧ S.w.heap.size ≤ b ∧ S'.w.heap[b]? = some (.cells cur o.ty (0, 0)) ∧
      o.box = true ∧ o.es.length = 1 ∧ cur.size = o.sz ∧ (∀ e ∈ o.es, e.length = o.sz) ∧
      ∀ (i : Nat) (e : List AV) (j : Nat) (v : AV), o.es[i]? = some e → e[j]? = some v → sc v = true ∧ ∃ u, cur[i * o.sz + j]? = some u ∧ RepC S v u

/-- An argument. -/
def Arg (S : Sit) (v : AV) (u : Value) : Prop := match v with
  | .int .. | .bool _ | .str _ | .nilp | .cptr _ | .imm .. | .nilfn | .iface .. | .nilif | .agg _ | .tup _ => RepC S v u
  | .optr .. => Rep S v u
  | .fn _ a b => Rep S v u ∧ allc0 a = true ∧ allc0 b = true
  | _ => False

/-- The objects that an argument names. -/
def tch0 : List AV → List ID
  | [] => []
  | v :: r => match v with
    | .optr x _ _ => x :: tch0 r
    | _ => tch0 r

def tch : List AV → List ID
  | [] => []
  | v :: r => match v with
    | .optr x _ _ => x :: tch r
    | .fn _ a b => tch0 a ++ (tch0 b ++ tch r)
    | _ => tch r

def ACalls (P : Program) (f : FuncId) (args : List AV) (O : Heap) (tk : Nat) (R : Out → Heap → Nat → Prop) : Prop :=
  (∃ fn c, P.funcs[f]? = some fn ∧ (fn.name == "runtime.NumGoroutine") = false ∧ fn.body = some c) ∧
  ∀ (S : Sit) (us : Array Value), S.O = O → S.tk = tk → SimH S → (∀ x ∈ tch args, S.fz x = false) → us.size = args.length → (∀ j v, args[j]? = some v → Arg S v (us.getD j undef)) →
    Calls P f us S.w fun e w' => ∃ out S', S'.w = w' ∧ SimH S' ∧ Ext S S' ∧ RepOut S S' out e ∧ R out S'.O S'.tk

theorem ACalls.mono {P : Program} {f : FuncId} {args : List AV} {O : Heap} {tk : Nat} {R R' : Out → Heap → Nat → Prop} (h : ACalls P f args O tk R) (hr : ∀ out O' tk', R out O' tk' → R' out O' tk') : ACalls P f args O tk R' :=
  ⟨h.1, fun S us h1 h2 h3 h3' h4 h5 => (h.2 S us h1 h2 h3 h3' h4 h5).mono fun e w' ⟨out, S', q1, q2, q3, q4, q5⟩ => ⟨out, S', q1, q2, q3, q4, hr _ _ _ q5⟩⟩

/-! ### Entering -/

/-- The caller's name for an argument, and the call's own. -/
inductive Ent (bor : List ID) : AV → AV → Prop
  | same (v) (h : cl v = true) : Ent bor v v
  | cptr (cs) : Ent bor (.cptr cs) (.cptr cs)
  | agg (cs) : Ent bor (.agg cs) (.agg cs)
  | tup (cs) : Ent bor (.tup cs) (.tup cs)
  | iface (t v) : Ent bor (.iface t v) (.iface t v)
  | bor (k x i off) (h : bor[k]? = some x) : Ent bor (.optr x i off) (.optr (.bor k) i off)
  | up (x i off) (h : x ∉ bor) : Ent bor (.optr x i off) (.optr (.up x) i off)
  | fn (f a b a' b') (h1 : a.length = a'.length) (h2 : b.length = b'.length) (k1 : ∀ (j : Nat) (x y : AV), a[j]? = some x → a'[j]? = some y → Ent bor x y) (k2 : ∀ (j : Nat) (x y : AV), b[j]? = some x → b'[j]? = some y → Ent bor x y) :
      Ent bor (.fn f a b) (.fn f a' b')

def inner (S : Sit) (bor : List ID) (b : List Obj) : Sit :=
  { S with
    β := fun x => match x with
      | .loc _ => 0
      | .bor k => match bor[k]? with
        | some z => S.β z
        | none => 0
      | .up z => S.β z
    O := merge [] bor b S.O
    hid := fun x => match x with
      | .up z => if z ∈ bor then (S.O z).map (·.sz) else S.hid z
      | _ => none }

structure Bor (O : Heap) (bor : List ID) (b : List Obj) : Prop where
  len : b.length = bor.length
  nd : bor.Nodup
  at_ : ∀ (k : Nat) (x : ID), bor[k]? = some x → ∃ o, b[k]? = some o ∧ O x = some o ∧ o.box = true

theorem Bor.nil (O : Heap) : Bor O [] [] := ⟨rfl, List.nodup_nil, fun k x h => by simp at h⟩
theorem Bor.one {O : Heap} {x : ID} {o : Obj} (h : O x = some o) (hb : o.box = true) : Bor O [x] [o] := ⟨rfl, List.nodup_cons.2 ⟨fun h => (by cases h), List.nodup_nil⟩, fun k y hk => by
  cases k with
  | zero => simp at hk; subst hk; exact ⟨o, rfl, h, hb⟩
  | succ k => simp at hk⟩
theorem Bor.two {O : Heap} {x y : ID} {o p : Obj} (h : O x = some o) (hb : o.box = true) (h' : O y = some p) (hb' : p.box = true) (hne : x ≠ y) : Bor O [x, y] [o, p] := ⟨rfl, by simp [hne], fun k z hk => by
  match k with
  | 0 => simp at hk; subst hk; exact ⟨o, rfl, h, hb⟩
  | 1 => simp at hk; subst hk; exact ⟨p, rfl, h', hb'⟩
  | k + 2 => simp at hk⟩

section
variable {S : Sit} {bor : List ID} {b : List Obj}

theorem inner_live (hb : Bor S.O bor b) {g : Nat} (h : (inner S bor b).live g) : S.live g := by
  obtain ⟨x, hx, rfl⟩ := h
  cases x with
  | loc i => simp [inner, merge, look] at hx
  | bor k =>
    have hx' : ((b[k]?).map Obj.up).isSome = true := hx
    have hk : k < b.length := by
      cases hq : b[k]? with
      | none => rw [hq] at hx'; cases hx'
      | some _ => exact (List.getElem?_eq_some_iff.1 hq).1
    obtain ⟨z, hz⟩ : ∃ z, bor[k]? = some z := ⟨_, List.getElem?_eq_getElem (by rw [← hb.len]; exact hk)⟩
    obtain ⟨o, _, ho, _⟩ := hb.at_ k z hz
    exact ⟨z, by rw [ho]; rfl, by simp [inner, hz]⟩
  | up z =>
    have hx' : (if z ∈ bor then none else (S.O z).map Obj.up).isSome = true := hx
    split at hx'
    · cases hx'
    · refine ⟨z, ?_, rfl⟩
      cases hq : S.O z with
      | none => rw [hq] at hx'; cases hx'
      | some _ => rfl

theorem inner_le (hb : Bor S.O bor b) : Le S (inner S bor b) := ⟨Nat.le_refl _, rfl, rfl, rfl, rfl, Nat.le_refl _, fun _ _ => rfl, fun g hg => ⟨⟨hg.1, fun h => hg.2 (inner_live hb h)⟩, rfl⟩⟩

theorem inner_bor (hb : Bor S.O bor b) {k : Nat} {x : ID} (hk : bor[k]? = some x) : ∃ o, (inner S bor b).O (.bor k) = some o.up ∧ S.O x = some o ∧ (inner S bor b).β (.bor k) = S.β x ∧ o.box = true := by
  obtain ⟨o, h1, h2, h3⟩ := hb.at_ k x hk
  exact ⟨o, by show (b[k]?).map Obj.up = _; rw [h1]; rfl, h2, by simp [inner, hk], h3⟩

theorem inner_up {x : ID} (hx : x ∉ bor) : (inner S bor b).O (.up x) = (S.O x).map Obj.up := by
  show (if x ∈ bor then none else (S.O x).map Obj.up) = _
  rw [if_neg hx]

theorem optr_in (hs : SimH S) (hb : Bor S.O bor b) {x : ID} {i off : Nat} {u : Value} (h : Rep S (.optr x i off) u) : Rep (inner S bor b) (.optr (.up x) i off) u := by
  cases h with
  | clo h => cases h
  | optr _ _ _ o ho =>
    by_cases hx : x ∈ bor
    · have : (inner S bor b).hid (.up x) = some o.sz := by show (if x ∈ bor then (S.O x).map (·.sz) else S.hid x) = _; rw [if_pos hx, ho]; rfl
      exact .hidp (S := inner S bor b) (.up x) i off o.sz this
    · exact .optr (S := inner S bor b) (.up x) i off o.up (by rw [inner_up hx, ho]; rfl)
  | hidp _ _ _ sz hh =>
    by_cases hx : x ∈ bor
    · obtain ⟨k, hk⟩ := List.mem_iff_getElem?.1 hx
      obtain ⟨o, _, ho, _⟩ := hb.at_ k x hk
      rw [hs.hid x sz hh] at ho
      cases ho
    · have : (inner S bor b).hid (.up x) = some sz := by show (if x ∈ bor then (S.O x).map (·.sz) else S.hid x) = _; rw [if_neg hx]; exact hh
      exact .hidp (S := inner S bor b) (.up x) i off sz this

theorem repc_up0 {x : AV} {u : Value} (h : RepC S x u) : x.up0 = x := by
  cases h <;> rfl

theorem c0_in (hs : SimH S) (hb : Bor S.O bor b) {v : AV} {u : Value} (h : Rep S v u) (hc : v.c0 = true) : Rep (inner S bor b) v.up0 u := by
  cases v with
  | optr x i off => exact optr_in hs hb h
  | int k n => exact .clo ((cl_repc h rfl).le (inner_le hb))
  | bool b' => exact .clo ((cl_repc h rfl).le (inner_le hb))
  | str s => exact .clo ((cl_repc h rfl).le (inner_le hb))
  | nilp => exact .clo ((cl_repc h rfl).le (inner_le hb))
  | imm a c d e => exact .clo ((cl_repc h rfl).le (inner_le hb))
  | nilfn => exact .clo ((cl_repc h rfl).le (inner_le hb))
  | nilif => exact .clo ((cl_repc h rfl).le (inner_le hb))
  | any => cases hc
  | jnk => cases hc
  | cptr cs => cases hc
  | osl x => cases hc
  | fn f a b' => cases hc
  | iface t v => cases hc
  | agg cs => cases hc
  | tup cs => cases hc

theorem fn_c0 {f : Fn} {a b : List AV} (hd : (AV.fn f a b).d1 = true) : allc0 a = true ∧ allc0 b = true := by
  unfold AV.d1 at hd
  cases h1 : allc0 a with
  | true =>
    simp only [h1] at hd
    exact ⟨rfl, hd⟩
  | false => simp [h1] at hd

theorem map_get {f : AV → AV} {l : List AV} {j : Nat} {y : AV} (h : (l.map f)[j]? = some y) : ∃ x, l[j]? = some x ∧ y = f x := by
  rw [List.getElem?_map] at h
  obtain ⟨x, hx, rfl⟩ := Option.map_eq_some_iff.1 h
  exact ⟨x, hx, rfl⟩

theorem up_in (hs : SimH S) (hb : Bor S.O bor b) {v : AV} {u : Value} (h : Rep S v u) (hd : v.d1 = true) : Rep (inner S bor b) v.up u := by
  cases v with
  | optr x i off => exact optr_in hs hb h
  | osl x =>
    cases h with
    | clo h => cases h
    | osl _ o c cur ho hbx hw hc hl hm =>
      have hx : x ∉ bor := fun hx => by
        obtain ⟨k, hk⟩ := List.mem_iff_getElem?.1 hx
        obtain ⟨o', _, ho', hb'⟩ := hb.at_ k x hk
        rw [ho] at ho'; cases ho'; rw [hbx] at hb'; cases hb'
      have := Rep.osl (S := inner S bor b) (.up x) o.up c cur (by rw [inner_up hx, ho]; rfl) hbx hw hc (by simpa [Obj.up] using hl) hm
      rw [show o.up.es.length = o.es.length by simp [Obj.up]] at this
      exact this
  | fn f a b' =>
    obtain ⟨ha, hb''⟩ := fn_c0 hd
    cases h with
    | clo h =>
      cases h with
      | fn _ _ _ us1 us2 l1 l2 h1 h2 =>
        refine .fn _ _ _ us1 us2 (by simpa using l1) (by simpa using l2) (fun j y hj => ?_) (fun j y hj => ?_)
        · obtain ⟨x, hx, rfl⟩ := map_get hj
          rw [repc_up0 (h1 j x hx)]; exact .clo ((h1 j x hx).le (inner_le hb))
        · obtain ⟨x, hx, rfl⟩ := map_get hj
          rw [repc_up0 (h2 j x hx)]; exact .clo ((h2 j x hx).le (inner_le hb))
    | fn _ _ _ us1 us2 l1 l2 h1 h2 =>
      refine .fn _ _ _ us1 us2 (by simpa using l1) (by simpa using l2) (fun j y hj => ?_) (fun j y hj => ?_)
      · obtain ⟨x, hx, rfl⟩ := map_get hj
        exact c0_in hs hb (h1 j x hx) (allc0_at ha j x hx)
      · obtain ⟨x, hx, rfl⟩ := map_get hj
        exact c0_in hs hb (h2 j x hx) (allc0_at hb'' j x hx)
  | jnk =>
    cases h with
    | clo h => cases h
    | jnk _ h => exact .jnk _ h
  | cptr cs => exact .clo ((rep_cptr h).le (inner_le hb))
  | int k n => exact .clo ((cl_repc h rfl).le (inner_le hb))
  | bool b' => exact .clo ((cl_repc h rfl).le (inner_le hb))
  | str s => exact .clo ((cl_repc h rfl).le (inner_le hb))
  | nilp => exact .clo ((cl_repc h rfl).le (inner_le hb))
  | imm a c d e => exact .clo ((cl_repc h rfl).le (inner_le hb))
  | nilfn => exact .clo ((cl_repc h rfl).le (inner_le hb))
  | nilif => exact .clo ((cl_repc h rfl).le (inner_le hb))
  | any => cases hd
  | iface t v => cases hd
  | agg cs => cases hd
  | tup cs => cases hd

theorem c0_up0 {v : AV} (h : v.c0 = true) : v.up0.c0 = true := by
  cases v <;> first | rfl | cases h

theorem allc0_up0 : ∀ {l : List AV}, allc0 l = true → allc0 (l.map AV.up0) = true
  | [], _ => rfl
  | v :: r, h => by
    unfold allc0 at h
    split at h
    · rename_i hv
      simp only [List.map_cons, allc0, c0_up0 hv]
      exact allc0_up0 h
    · cases h

theorem d1_up {v : AV} (h : v.d1 = true) : v.up.d1 = true := by
  cases v with
  | fn f a b =>
    obtain ⟨h1, h2⟩ := fn_c0 h
    simp [AV.up, AV.d1, allc0_up0 h1, allc0_up0 h2]
  | _ => first | rfl | cases h

/-- What an argument stands for by the call's own names. -/
theorem ent_in (hs : SimH S) (hb : Bor S.O bor b) {v v' : AV} {u : Value} (he : Ent bor v v') (h : Arg S v u ∨ (v.c0 = true ∧ Rep S v u)) : Rep (inner S bor b) v' u := by
  induction he generalizing u with
  | same v hv =>
    refine .clo (RepC.le (inner_le hb) ?_)
    rcases h with h | h
    · cases v with
      | fn f a b => exact cl_repc h.1 hv
      | _ => first | exact h | cases hv
    · exact cl_repc h.2 hv
  | cptr cs => exact .clo ((h.elim (fun h => h) fun h => (by cases h.1)).le (inner_le hb))
  | agg cs => exact .clo ((h.elim (fun h => h) fun h => (by cases h.1)).le (inner_le hb))
  | tup cs => exact .clo ((h.elim (fun h => h) fun h => (by cases h.1)).le (inner_le hb))
  | iface t v => exact .clo ((h.elim (fun h => h) fun h => (by cases h.1)).le (inner_le hb))
  | bor k x i off hk =>
    have hr : Rep S (.optr x i off) u := h.elim (fun h => h) fun h => h.2
    obtain ⟨o, h1, h2, h3, h4⟩ := inner_bor hb hk
    have hu := rep_optr hs h2 hr
    subst hu
    rw [← h3]
    exact .optr (S := inner S bor b) (.bor k) i off o.up h1
  | up x i off hx =>
    have hr : Rep S (.optr x i off) u := h.elim (fun h => h) fun h => h.2
    exact optr_in hs hb hr
  | fn f a b' a' b'' e1 e2 k1 k2 ih1 ih2 =>
    have hr : Rep S (.fn f a b') u ∧ allc0 a = true ∧ allc0 b' = true := h.elim (fun h => h) fun h => (by cases h.1)
    obtain ⟨hr, ha, hb'⟩ := hr
    have key : ∀ (l l' : List AV) (us : Array Value), us.size = l.length → l.length = l'.length → allc0 l = true → (∀ j x, l[j]? = some x → Rep S x (us.getD j undef)) →
        (∀ (j : Nat) (x y : AV), l[j]? = some x → l'[j]? = some y → ∀ {u : Value}, (Arg S x u ∨ (x.c0 = true ∧ Rep S x u)) → Rep (inner S bor b) y u) →
        us.size = l'.length ∧ ∀ j y, l'[j]? = some y → Rep (inner S bor b) y (us.getD j undef) := by
      intro l l' us q1 q2 q3 q4 q5
      refine ⟨q1.trans q2, fun j y hj => ?_⟩
      have hjl : j < l.length := by rw [q2]; exact (List.getElem?_eq_some_iff.1 hj).1
      exact q5 j l[j] y (List.getElem?_eq_getElem hjl) hj (.inr ⟨allc0_at q3 j _ (List.getElem?_eq_getElem hjl), q4 j _ (List.getElem?_eq_getElem hjl)⟩)
    cases hr with
    | clo hr =>
      cases hr with
      | fn _ _ _ us1 us2 l1 l2 h1 h2 =>
        obtain ⟨r1, r2⟩ := key a a' us1 l1 e1 ha (fun j x hx => .clo (h1 j x hx)) (fun j x y hx hy => ih1 j x y hx hy)
        obtain ⟨r3, r4⟩ := key b' b'' us2 l2 e2 hb' (fun j x hx => .clo (h2 j x hx)) (fun j x y hx hy => ih2 j x y hx hy)
        exact .fn _ _ _ us1 us2 r1 r3 r2 r4
    | fn _ _ _ us1 us2 l1 l2 h1 h2 =>
      obtain ⟨r1, r2⟩ := key a a' us1 l1 e1 ha h1 (fun j x y hx hy => ih1 j x y hx hy)
      obtain ⟨r3, r4⟩ := key b' b'' us2 l2 e2 hb' h2 (fun j x y hx hy => ih2 j x y hx hy)
      exact .fn _ _ _ us1 us2 r1 r3 r2 r4

theorem inner_sim (hs : SimH S) (hb : Bor S.O bor b) : SimH (inner S bor b) := by
  refine ⟨fun x o hx => ?_, fun x y hx hy hxy => ?_, fun x hx => ?_, fun t h1 h2 => ?_, hs.tinj, hs.b0, fun x sz hx => ?_, hs.tk2⟩
  · have key : ∀ (z : ID) (p : Obj), S.O z = some p → (inner S bor b).β x = S.β z → o = p.up → ∃ cur, (inner S bor b).w.heap[(inner S bor b).β x]? = some (.cells cur o.ty (0, 0)) ∧ o.es.length * o.sz ≤ cur.size ∧ (o.box = true → o.es.length = 1 ∧ cur.size = o.sz) ∧
        (∀ e ∈ o.es, e.length = o.sz) ∧ ∀ (i : Nat) (e : List AV) (j : Nat) (v : AV), o.es[i]? = some e → e[j]? = some v → v.d1 = true ∧ ∃ u, cur[i * o.sz + j]? = some u ∧ Rep (inner S bor b) v u ∧ (o.box = false → RepC (inner S bor b) v u) := by
      intro z p hz hβ hop
      subst hop
      obtain ⟨cur, q1, q2, q3, q4, q5⟩ := hs.obj z p hz
      rw [hβ]
      refine ⟨cur, q1, by simpa [Obj.up] using q2, by simpa [Obj.up] using q3, fun e he => ?_, fun i e j v hi hj => ?_⟩
      · simp only [Obj.up, List.mem_map] at he
        obtain ⟨e0, he0, rfl⟩ := he
        simpa [Obj.up] using q4 e0 he0
      · simp only [Obj.up, List.getElem?_map] at hi
        obtain ⟨e0, he0, rfl⟩ := Option.map_eq_some_iff.1 hi
        obtain ⟨v0, hv0, rfl⟩ := map_get hj
        obtain ⟨s1, u, s2, s3, s4⟩ := q5 i e0 j v0 he0 hv0
        refine ⟨d1_up s1, u, s2, up_in hs hb s3 s1, fun hbx => ?_⟩
        have hc := s4 hbx
        have : v0.up = v0 := by
          cases hc with
          | fn f fi ca us1 us2 l1 l2 h1 h2 =>
            have m1 : fi.map AV.up0 = fi := by
              apply List.ext_getElem?
              intro n
              rw [List.getElem?_map]
              cases hn : fi[n]? with
              | none => rfl
              | some y => simp [repc_up0 (h1 n y hn)]
            have m2 : ca.map AV.up0 = ca := by
              apply List.ext_getElem?
              intro n
              rw [List.getElem?_map]
              cases hn : ca[n]? with
              | none => rfl
              | some y => simp [repc_up0 (h2 n y hn)]
            simp [AV.up, m1, m2]
          | _ => rfl
        rw [this]
        exact hc.le (inner_le hb)
    cases x with
    | loc i => simp [inner, merge, look] at hx
    | bor k =>
      have hx' : (b[k]?).map Obj.up = some o := hx
      obtain ⟨p, hp, rfl⟩ := Option.map_eq_some_iff.1 hx'
      obtain ⟨z, hz⟩ : ∃ z, bor[k]? = some z := ⟨_, List.getElem?_eq_getElem (by rw [← hb.len]; exact (List.getElem?_eq_some_iff.1 hp).1)⟩
      obtain ⟨p', hp', hO, _⟩ := hb.at_ k z hz
      rw [hp] at hp'; cases hp'
      exact key z p hO (by simp [inner, hz]) rfl
    | up z =>
      have hx' : (if z ∈ bor then none else (S.O z).map Obj.up) = some o := hx
      split at hx'
      · cases hx'
      · obtain ⟨p, hp, rfl⟩ := Option.map_eq_some_iff.1 hx'
        exact key z p hp rfl rfl
  · -- names: each leads to one of the caller's
    have tr : ∀ x : ID, ((inner S bor b).O x).isSome = true → ∃ z, (S.O z).isSome = true ∧ (inner S bor b).β x = S.β z ∧ ((∃ k, x = .bor k ∧ bor[k]? = some z) ∨ (x = .up z ∧ z ∉ bor)) := by
      intro x hx
      cases x with
      | loc i => simp [inner, merge, look] at hx
      | bor k =>
        have hx' : ((b[k]?).map Obj.up).isSome = true := hx
        have hk : k < b.length := by
          cases hq : b[k]? with
          | none => rw [hq] at hx'; cases hx'
          | some _ => exact (List.getElem?_eq_some_iff.1 hq).1
        obtain ⟨z, hz⟩ : ∃ z, bor[k]? = some z := ⟨_, List.getElem?_eq_getElem (by rw [← hb.len]; exact hk)⟩
        obtain ⟨o, _, ho, _⟩ := hb.at_ k z hz
        exact ⟨z, by rw [ho]; rfl, by simp [inner, hz], .inl ⟨k, rfl, hz⟩⟩
      | up z =>
        have hx' : (if z ∈ bor then none else (S.O z).map Obj.up).isSome = true := hx
        split at hx'
        · cases hx'
        · rename_i hz
          refine ⟨z, ?_, rfl, .inr ⟨rfl, hz⟩⟩
          cases hq : S.O z with
          | none => rw [hq] at hx'; cases hx'
          | some _ => rfl
    obtain ⟨z, z1, z2, z3⟩ := tr x hx
    obtain ⟨z', z1', z2', z3'⟩ := tr y hy
    have : z = z' := hs.inj z z' z1 z1' (by rw [← z2, ← z2', hxy])
    subst this
    rcases z3 with ⟨k, rfl, hk⟩ | ⟨rfl, hz⟩ <;> rcases z3' with ⟨k', rfl, hk'⟩ | ⟨rfl, hz'⟩
    · have : bor[k]? = bor[k']? := by rw [hk, hk']
      rw [(List.getElem?_inj (List.getElem?_eq_some_iff.1 hk).1 hb.nd).1 this]
    · exact absurd (List.mem_of_getElem? hk) hz'
    · exact absurd (List.mem_of_getElem? hk') hz
    · rfl
  · obtain ⟨z, hz, hzb⟩ := inner_live hb ⟨x, hx, rfl⟩
    rw [← hzb]; exact hs.base z hz
  · obtain ⟨s1, s2, s3⟩ := hs.tok t h1 h2
    exact ⟨s1, fun h => s2 (inner_live hb h), s3⟩
  · cases x with
    | loc i => cases hx
    | bor k => cases hx
    | up z =>
      show (if z ∈ bor then none else (S.O z).map Obj.up) = none
      split
      · rfl
      · rename_i hz
        have hx' : (if z ∈ bor then (S.O z).map (·.sz) else S.hid z) = some sz := hx
        rw [if_neg hz] at hx'
        rw [hs.hid z sz hx']; rfl

end

end Go.Am
