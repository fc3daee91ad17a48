/- A contract of the kit's, turned into one of ours: a call that leaves all that was there as it was. -/
import Derived.Test.YtoajlhhalpldfaaGreatDoorMi3
import Derived.Below
namespace Go.Am
open Go Go.RowKit

theorem strLo_step {C : Ctx} {Γ : TTab} (hG : GOK C.P Γ) {σ : St} {o : Oper} {T : TypeId} {x y : Operand} (ho : o.op = .slice T x (some y) none none) {p r : ByteArray} {k : IntKind} {i : Int} (hx : oev σ.env x = some (.str p)) (hy : oev σ.env y = some (.int k i))
  {t : TI} (hT : look T Γ = some t) (hd : t.desc = .string) (hb : strSub p i p.size = some r) : Pu C o σ (.str r) := by
 intro a w S hat
 have rx := rep_str (oev_rep hat hx)
 have ry := rep_int (oev_rep hat hy)
 have hU := (hG T t hT).und
 rw [hd] at hU
 unfold strSub at hb
 split at hb
 ·rename_i h
  cases hb
  refine ⟨.string (p.extract i.toNat p.size), fun w1 => ?_, .clo (.str _)⟩
  unfold execOp
  have := run_slice_string_l (P := C.P) (w := w1) (s := p) T hU k i h.1 h.2.1
  simp [ho, rx, ry, run_sliceAt_string w1 T _ _ _ _ hU, this]
 cases hb
theorem strHi_step {C : Ctx} {Γ : TTab} (hG : GOK C.P Γ) {σ : St} {o : Oper} {T : TypeId} {x z : Operand} (ho : o.op = .slice T x none (some z) none) {p r : ByteArray} {k : IntKind} {j : Int} (hx : oev σ.env x = some (.str p)) (hz : oev σ.env z = some (.int k j))
  {t : TI} (hT : look T Γ = some t) (hd : t.desc = .string) (hb : strSub p 0 j = some r) : Pu C o σ (.str r) := by
 intro a w S hat
 have rx := rep_str (oev_rep hat hx)
 have rz := rep_int (oev_rep hat hz)
 have hU := (hG T t hT).und
 rw [hd] at hU
 unfold strSub at hb
 split at hb
 ·rename_i h
  cases hb
  refine ⟨.string (p.extract 0 j.toNat), fun w1 => ?_, .clo (.str _)⟩
  unfold execOp
  have := run_slice_string_h (P := C.P) (w := w1) (s := p) T hU k j h.2.1 h.2.2
  simp [ho, rx, rz, run_sliceAt_string w1 T _ _ _ _ hU, this]
 cases hb

theorem below_ext {S : Sit} (hs : SimH S) {w' : World} (hb : Below S.w.heap.size S.w w') : SimH { S with w := w' } ∧ Ext S { S with w := w' } := by
 have hle : Le S { S with w := w' } := ⟨hb.size, hb.os, hb.tape, hb.output, rfl, Nat.le_refl _, fun _ _ => rfl, fun b h => ⟨⟨Nat.lt_of_lt_of_le h.1 hb.size, h.2⟩, hb.block b h.1⟩⟩
 have hx : Ext S { S with w := w' } := ⟨hle, fun x o h => ⟨o, h, rfl, rfl, rfl, rfl, fun _ => ⟨rfl, hb.block _ (hs.lt h)⟩⟩, fun _ h => h, fun _ _ h => ⟨h, rfl⟩, rfl, rfl, fun t h1 h2 => absurd h2 (Nat.not_lt.2 h1)⟩
 refine ⟨⟨fun x o h => ?_, hs.inj, hs.base, fun t h1 h2 => ?_, hs.tinj, Nat.le_trans hs.b0 hb.size, hs.hid, hs.tk2⟩, hx⟩
 ·obtain ⟨cur, h1, h2, h3, h4, h5⟩ := hs.obj x o h
  refine ⟨cur, (hb.block _ (hs.lt h)).trans h1, h2, h3, h4, fun i e j v hi hj => ?_⟩
  obtain ⟨a, u, b, c, d⟩ := h5 i e j v hi hj
  exact ⟨a, u, b, c.ext hx, fun q => (d q).le hle⟩
 obtain ⟨a, b, c⟩ := hs.tok t h1 h2
 exact ⟨Nat.lt_of_lt_of_le a hb.size, b, c⟩

theorem acalls_below {P : Program} {f : FuncId} {args : List AV} {O : Heap} {tk : Nat} {v : AV} {us0 : Array Value} {u : Value}
  (hb : ∃ fn c, P.funcs[f]? = some fn ∧ (fn.name == "runtime.NumGoroutine") = false ∧ fn.body = some c)
  (ha : ∀ (S : Sit) (us : Array Value), us.size = args.length → (∀ j v, args[j]? = some v → Arg S v (us.getD j undef)) → us = us0) (hv : ∀ S, RepC S v u)
  (h : ∀ w : World, Calls P f us0 w fun e w' => e = .returned u ∧ Below w.heap.size w w') : ACalls P f args O tk (RetN O v tk) := by
 refine ⟨hb, fun S us h1 h2 h3 _ _ h4 h5 => ?_⟩
 rw [ha S us h4 h5]
 refine (h S.w).mono fun e w' ⟨q1, q2⟩ => ?_
 obtain ⟨k1, k2⟩ := below_ext h3 q2
 exact ⟨.ret v, { S with w := w' }, rfl, k1, k2, ⟨u, q1, hv _⟩, h1, rfl, h2⟩

theorem arg_str {S : Sit} {s : ByteArray} {u : Value} (h : Arg S (.str s) u) : u = .string s := by
 have h' : RepC S (.str s) u := h
 cases h'; rfl
theorem arg_int {S : Sit} {k : IntKind} {n : Int} {u : Value} (h : Arg S (.int k n) u) : u = .int k n := by
 have h' : RepC S (.int k n) u := h
 cases h'; rfl
theorem us_two {a b : Value} {us : Array Value} (h : us.size = 2) (h0 : us.getD 0 undef = a) (h1 : us.getD 1 undef = b) : us = #[a, b] := by
 obtain ⟨l⟩ := us
 match l, h with
 | [x, y], _ => simp at h0 h1; rw [h0, h1]

theorem us_str_str {S : Sit} {s t : ByteArray} {us : Array Value} (h : us.size = [AV.str s, AV.str t].length) (hr : ∀ j v, [AV.str s, AV.str t][j]? = some v → Arg S v (us.getD j undef)) : us = #[.string s, .string t] := by
 refine us_two h ?_ ?_
 ·exact arg_str (hr 0 _ rfl)
 exact arg_str (hr 1 _ rfl)
theorem us_str_int {S : Sit} {s : ByteArray} {k : IntKind} {n : Int} {us : Array Value} (h : us.size = [AV.str s, AV.int k n].length) (hr : ∀ j v, [AV.str s, AV.int k n][j]? = some v → Arg S v (us.getD j undef)) : us = #[.string s, .int k n] := by
 refine us_two h ?_ ?_
 ·exact arg_str (hr 0 _ rfl)
 exact arg_int (hr 1 _ rfl)

end Go.Am
