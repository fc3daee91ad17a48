/- The mirror's ground, second part: strings, bytes, the greater of two, panics. -/
import Derived.Test.YtklchmkanhpeeaaMiA
import Derived.Laws.BytesString
import Derived.Laws.Concat
import Derived.Laws.Strings
import Derived.Laws.Strings2
import Derived.WalkSmall
namespace Go.Am
open Go

theorem strAdd_step {C : Ctx} {σ : St} {o : Oper} {T T' : TypeId} {x y : Operand} (ho : o.op = .binOp .add T x y T') {p q : ByteArray} (hx : oev σ.env x = some (.str p)) (hy : oev σ.env y = some (.str q)) (hs : p.size + q.size ≤ 9223372036854775807) :
    Pu C o σ (.str (p ++ q)) := by
  intro a w S hat
  have rx := rep_str (oev_rep hat hx)
  have ry := rep_str (oev_rep hat hy)
  refine ⟨.string (p ++ q), fun w1 => ?_, .clo (.str _)⟩
  unfold execOp
  have := run_string_add_sum (P := C.P) w1 p q hs
  simp [ho, rx, ry, binOp, eqGuard, this]

/-- The byte at a place. -/
def byteAt (s : ByteArray) (i : Int) : Option Int := if h : 0 ≤ i ∧ i < s.size then some ((s[i.toNat]'(by omega)).toNat : Int) else none

theorem strIndex_step {C : Ctx} {Γ : TTab} (hG : GOK C.P Γ) {σ : St} {o : Oper} {T : TypeId} {x y : Operand} (ho : o.op = .index T x y) {p : ByteArray} {k : IntKind} {i b : Int} (hx : oev σ.env x = some (.str p)) (hy : oev σ.env y = some (.int k i))
    {t : TI} (hT : look T Γ = some t) (hd : t.desc = .string) (hb : byteAt p i = some b) : Pu C o σ (.int .u8 b) := by
  intro a w S hat
  have rx := rep_str (oev_rep hat hx)
  have ry := rep_int (oev_rep hat hy)
  have hU := (hG T t hT).und
  rw [hd] at hU
  unfold byteAt at hb
  split at hb
  · rename_i h
    cases hb
    refine ⟨.int .u8 ((p[i.toNat]'(by omega)).toNat : Int), fun w1 => ?_, .clo (.int _ _)⟩
    unfold execOp
    have := run_index_string (P := C.P) w1 T p k i hU
    rw [dif_pos h] at this
    simp [ho, rx, ry, this]
  · cases hb

/-- A piece of a text. -/
def strSub (s : ByteArray) (i j : Int) : Option ByteArray := if 0 ≤ i ∧ i ≤ j ∧ j ≤ s.size then some (s.extract i.toNat j.toNat) else none

theorem strSlice_step {C : Ctx} {Γ : TTab} (hG : GOK C.P Γ) {σ : St} {o : Oper} {T : TypeId} {x y z : Operand} (ho : o.op = .slice T x (some y) (some z) none) {p r : ByteArray} {k k' : IntKind} {i j : Int} (hx : oev σ.env x = some (.str p)) (hy : oev σ.env y = some (.int k i)) (hz : oev σ.env z = some (.int k' j))
    {t : TI} (hT : look T Γ = some t) (hd : t.desc = .string) (hb : strSub p i j = some r) : Pu C o σ (.str r) := by
  intro a w S hat
  have rx := rep_str (oev_rep hat hx)
  have ry := rep_int (oev_rep hat hy)
  have rz := rep_int (oev_rep hat hz)
  have hU := (hG T t hT).und
  rw [hd] at hU
  unfold strSub at hb
  split at hb
  · rename_i h
    cases hb
    refine ⟨.string (p.extract i.toNat j.toNat), fun w1 => ?_, .clo (.str _)⟩
    unfold execOp
    have := run_slice_string (P := C.P) w1 T p k k' i j hU h.1 h.2.1 h.2.2
    simp [ho, rx, ry, rz, run_sliceAt_string w1 T _ _ _ _ hU, this]
  · cases hb

/-- The text of some bytes. -/
def bytesOf (xs : List Int) : ByteArray := xs.foldl (fun r n => r.push (UInt8.ofNat n.toNat)) ByteArray.empty

theorem bytesStr_rd {C : Ctx} {Γ : TTab} (hG : GOK C.P Γ) {σ : St} {o : Oper} {T T' e : TypeId} {x : Operand} (ho : o.op = .convert T T' x) {p : AV} (hx : oev σ.env x = some p) {es : List (List AV)} (hq : elems σ p = some es) {xs : List Int} (hes : es = xs.map fun n => [AV.int .u8 n]) (hne : xs ≠ [])
    {t t' te : TI} (hT : look T Γ = some t) (hd : t.desc = .slice e) (he : look e Γ = some te) (hde : te.desc = .int .u8) (hT' : look T' Γ = some t') (hd' : t'.desc = .string) : Rd C [] o σ (.str (bytesOf xs)) := by
  intro a w S hat _
  have hU := (hG T t hT).und
  rw [hd] at hU
  have hE := (hG e te he).und
  rw [hde] at hE
  have hU' := (hG T' t' hT').und
  rw [hd'] at hU'
  obtain ⟨ad, c, f, hu, hl, hm, hc⟩ := elems_rep (sz := 1) hat (oev_rep hat hx) hq (fun e he => by subst hes; simp at he; obtain ⟨n, _, rfl⟩ := he; rfl)
  obtain ⟨b, off, rfl, hcell⟩ := hc (by subst hes; simpa using hne)
  refine ⟨.string (bytesOf xs), fun w1 hw1 => ?_, .clo (.str _)⟩
  have hlen : es.length = xs.length := by subst hes; simp
  have key : ∀ j v, (xs.map (Value.int .u8))[j]? = some v → w1.cell? ((⟨b, off, none⟩ : Addr).add j) = some v := by
    intro j v hj
    rw [List.getElem?_map] at hj
    obtain ⟨n, hn, rfl⟩ := Option.map_eq_some_iff.1 hj
    obtain ⟨_, q1, q2⟩ := hcell j [.int .u8 n] 0 (.int .u8 n) (by subst hes; simp [hn]) rfl
    have hf : f j 0 = .int .u8 n := by
      generalize f j 0 = u at q2
      cases q2; rfl
    rw [hf] at q1
    rw [add_off]
    have hblk : b < w.heap.size := by
      simp only [World.cell?] at q1
      by_cases hb : b < w.heap.size
      · exact hb
      · simp [Array.getElem?_eq_none (Nat.le_of_not_lt hb)] at q1
    have hh := hw1.2 b (by rw [hat.w]; exact hblk) fun _ h => by cases h
    rw [hat.w] at hh
    refine cell_of_eq hh ?_
    rw [show off + j = off + (j * 1 + 0) by omega]; exact q1
  have hload := run_loadCells_list (P := C.P) w1 ⟨b, off, none⟩ (xs.map (Value.int .u8)) key
  rw [List.length_map] at hload
  have h2 := run_bytesToString (P := C.P) w1 ⟨b, off, none⟩ xs.length c xs hload
  unfold execOp
  rw [hlen] at hu
  simp only [ho, hu]
  rw [Sem.run_bind, run_convert_bytes_string (P := C.P) w1 T T' e _ _ _ hU hE hU', h2]
  rfl

def imax (a b : Int) : Int := if b > a then b else a

theorem max_step {C : Ctx} {σ : St} {o : Oper} {ts : Array TypeId} {x y : Operand} (ho : o.op = .call { callee := .builtin .max, args := #[x, y], argTypes := ts }) {k k' : IntKind} {m n : Int} (hx : oev σ.env x = some (.int k m)) (hy : oev σ.env y = some (.int k' n)) :
    Pu C o σ (.int k (imax m n)) := by
  intro a w S hat
  have rx := rep_int (oev_rep hat hx)
  have ry := rep_int (oev_rep hat hy)
  refine ⟨.int k (imax m n), fun w1 => ?_, .clo (.int _ _)⟩
  unfold execOp
  simp only [ho, resolve, Sem.run_bind, Sem.run_pure, Result.andThen_ok]
  have := run_max_int2 (P := C.P) w1 ts o.type k k' m n
  simp [invoke, rx, ry, builtin, this, imax]

theorem run_panic {C : Ctx} {Q : AEx → St → Prop} {ks : List AItem} {σ : St} {all : Array Oper} {o : Oper} {rest : List Oper} (hg : o.guard = none) {x : Operand} (ho : o.op = .panic x) {t : TypeId} {v : AV} (hx : oev σ.env x = some (.iface t v)) 
    (h : Run C Q ks (.pan (.iface t v)) { σ with env := [] }) : Run C Q (.ops all (o :: rest) :: ks) .normal σ := by
  intro a w S hat
  refine wpList_plain hg fun K hK => ?_
  have hr := oev_rep hat hx
  have hc : RepC S (.iface t v) (a.eval x) := by
    generalize a.eval x = u at hr
    cases hr with
    | clo h => exact h
  have hw := hat.w
  subst hw
  unfold Oper.wp
  obtain ⟨u, hu⟩ : ∃ u, a.eval x = .iface t u := by
    generalize a.eval x = u at hc
    cases hc with
    | iface _ _ u h => exact ⟨u, rfl⟩
  have : (execOp a.eval o).run C.P S.w = .halt (.panic (.iface t u)) S.w := by
    unfold execOp
    simp only [ho, hu]
    rw [Sem.run_bind, run_panic_iface]
    rfl
  rw [this]
  rw [hu] at hc
  exact ⟨S, { σ with env := [] }, .iface t v, .iface t u, rfl, hat.weaken [] (fun i v hv => by simp [look] at hv), rfl, hc, h⟩

end Go.Am
