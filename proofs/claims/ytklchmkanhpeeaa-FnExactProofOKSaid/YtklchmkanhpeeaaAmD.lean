/- The abstract memory logic, fourth part: operations that read alone. -/
import Derived.Test.YtklchmkanhpeeaaAmC
import Derived.Laws.Cells
namespace Go.Am
open Go

def force : AV → Option AV
  | .int k n => some (.int k n)
  | .bool b => some (.bool b)
  | .str s => some (.str s)
  | .nilp => some .nilp
  | .optr x i o => some (.optr x i o)
  | .cptr cs => some (.cptr cs)
  | .imm a b c d => some (.imm a b c d)
  | .osl x => some (.osl x)
  | .fn f a b => some (.fn f a b)
  | .nilfn => some .nilfn
  | .iface t v => some (.iface t v)
  | .nilif => some .nilif
  | _ => none

theorem force_eq {v x : AV} (h : force v = some x) : x = v := by
  unfold force at h; split at h <;> cases h <;> rfl

/-- The first n of a list of cells, laid out. -/
def takeF : Nat → List AV → Option (List AV)
  | 0, _ => some []
  | _ + 1, [] => none
  | n + 1, v :: r => match force v with
    | some x => match takeF n r with
      | some xs => some (x :: xs)
      | none => none
    | none => none

theorem takeF_eq : ∀ {n : Nat} {l xs : List AV}, takeF n l = some xs → xs = l.take n ∧ n ≤ l.length
  | 0, l, xs, h => by simp [takeF] at h; subst h; simp
  | n + 1, [], xs, h => by simp [takeF] at h
  | n + 1, v :: r, xs, h => by
    unfold takeF at h
    split at h
    · rename_i x hx
      split at h
      · rename_i ys hy
        cases h
        obtain ⟨h1, h2⟩ := takeF_eq hy
        rw [force_eq hx, h1]
        exact ⟨by simp, by simp; omega⟩
      · cases h
    · cases h

/-- Where a pointer leads: the cells from there on. -/
def cellsAt (H : Heap) : AV → Option (List AV)
  | .optr x i off => match H x with
    | some o => match o.es[i]? with
      | some e => some (e.drop off)
      | none => none
    | none => none
  | .cptr cs => some cs
  | _ => none

def aload (Γ : TTab) (H : Heap) (T : TypeId) (p : AV) : Option AV :=
  match look T Γ with
  | some i => match cellsAt H p with
    | some cs => match i.agg with
      | true => match takeF i.size cs with
        | some xs => some (.agg xs)
        | none => none
      | false => match cs with
        | v :: _ => force v
        | [] => none
    | none => none
  | none => none

/-- What a pointer leads to in the world. -/
theorem cellsAt_rep {C : Ctx} {σ : St} {a : Act} {w : World} {S : Sit} (hat : At C σ a w S) {p : AV} {u : Value} {cs : List AV} (hp : Rep S p u) (h : cellsAt (C.heap σ) p = some cs) :
    ∃ b o, u = .pointer (some ⟨b, o, none⟩) ∧ ∀ j x, cs[j]? = some x → x.d1 = true ∧ ∃ v, w.cell? ⟨b, o + j, none⟩ = some v ∧ Rep S x v := by
  unfold cellsAt at h
  split at h
  · rename_i x i off
    rw [← hat.O] at h
    split at h
    · rename_i o ho
      have hu := rep_optr hat.sim ho hp
      subst hu
      split at h
      · rename_i e he
        cases h
        refine ⟨_, _, rfl, fun j y hy => ?_⟩
        obtain ⟨cur, hc, hz, _, hl, hv⟩ := hat.sim.obj x o ho
        rw [List.getElem?_drop] at hy
        obtain ⟨hd, v, hcv, hrv, _⟩ := hv i e (off + j) y he hy
        refine ⟨hd, v, ?_, hrv⟩
        rw [← hat.w]
        simp only [World.cell?, hc, Option.isSome_none, Bool.false_eq_true, if_false]
        rw [show i * o.sz + off + j = i * o.sz + (off + j) by omega]
        exact hcv
      · cases h
    · cases h
  · rename_i cs'
    cases h
    have hr := rep_cptr hp
    cases hr with
    | cptr _ b o us hc hs h1 h2 => exact ⟨b, o, rfl, fun j x hj => ⟨hs j x hj, us j, by rw [← hat.w]; exact h1 j x hj, .clo (h2 j x hj)⟩⟩
  · cases h

theorem isAgg_run {P : Program} {t : TypeId} {i : TI} (h : TOK P t i) (w : World) : (isAgg t).run P w = .ok i.agg w := by
  unfold isAgg
  rw [Sem.run_bind, run_underlying h.und w]
  unfold TI.agg
  cases i.desc <;> simp

theorem sizeOf_run {P : Program} {t : TypeId} {i : TI} (h : TOK P t i) (w : World) : (sizeOf t).run P w = .ok i.size w := by
  obtain ⟨ti, z, h1, h2, _⟩ := h.info
  simp [sizeOf, typeInfo, h1, h2]

/-- A load's pointer leads to no object of W. -/
def ldok (W : List ID) : AV → Prop
  | .optr x _ _ => x ∉ W
  | .cptr _ => True
  | _ => False

/-- What a pointer leads to, in every world in which the objects but W are as they were. -/
theorem cellsAt_held {C : Ctx} {σ : St} {a : Act} {w : World} {S : Sit} (hat : At C σ a w S) {W : List ID} (hW : ∀ x ∈ W, (S.O x).isSome = true) {p : AV} {u : Value} {cs : List AV} (hp : Rep S p u) (h : cellsAt (C.heap σ) p = some cs) (hld : ldok W p) :
    ∃ b o, u = .pointer (some ⟨b, o, none⟩) ∧ ∀ j x, cs[j]? = some x → x.d1 = true ∧ ∃ v, (∀ w1, Held S W w1 → w1.cell? ⟨b, o + j, none⟩ = some v) ∧ Rep S x v := by
  unfold cellsAt at h
  split at h
  · rename_i x i off
    rw [← hat.O] at h
    split at h
    · rename_i o ho
      have hu := rep_optr hat.sim ho hp
      subst hu
      split at h
      · rename_i e he
        cases h
        refine ⟨_, _, rfl, fun j y hy => ?_⟩
        obtain ⟨cur, hc, hz, _, hl, hv⟩ := hat.sim.obj x o ho
        rw [List.getElem?_drop] at hy
        obtain ⟨hd, v, hcv, hrv, _⟩ := hv i e (off + j) y he hy
        refine ⟨hd, v, fun w1 hw1 => ?_, hrv⟩
        have hlt : S.β x < S.w.heap.size := (Array.getElem?_eq_some_iff.1 hc).1
        have hh := hw1.2 (S.β x) hlt fun z hz e => hld ((hat.sim.inj z x (hW z hz) (by rw [ho]; rfl) e) ▸ hz)
        simp only [World.cell?, hh, hc, Option.isSome_none, Bool.false_eq_true, if_false]
        rw [show i * o.sz + off + j = i * o.sz + (off + j) by omega]
        exact hcv
      · cases h
    · cases h
  · rename_i cs'
    cases h
    have hr := rep_cptr hp
    cases hr with
    | cptr _ b o us hc hs h1 h2 =>
      refine ⟨b, o, rfl, fun j x hj => ⟨hs j x hj, us j, fun w1 hw1 => ?_, .clo (h2 j x hj)⟩⟩
      exact cell_of_eq (hw1.2 b hc.1 fun z hz e => hc.2 ⟨z, hW z hz, e⟩) (h1 j x hj)
  · cases h

theorem aload_rd {C : Ctx} {Γ : TTab} (hG : GOK C.P Γ) {σ : St} {W : List ID} {o : Oper} {T : TypeId} {x : Operand} (ho : o.op = .load T x) {p v : AV} (hx : oev σ.env x = some p) (h : aload Γ (C.heap σ) T p = some v) (hld : ldok W p) :
    Rd C W o σ v := by
  intro a w S hat hW
  unfold aload at h
  split at h
  · rename_i i hi
    have hT := hG T i hi
    split at h
    · rename_i cs hcs
      obtain ⟨b, off, hu, hc⟩ := cellsAt_held hat hW (oev_rep hat hx) hcs hld
      split at h
      · rename_i hagg
        split at h
        · rename_i xs hxs
          cases h
          obtain ⟨rfl, hlen⟩ := takeF_eq hxs
          have hadd : ∀ j, (⟨b, off, none⟩ : Addr).add j = ⟨b, off + j, none⟩ := fun j => by unfold Addr.add; split <;> simp_all
          have hv0 : ∀ j, j < i.size → ∃ v, (∀ w1, Held S W w1 → w1.cell? ⟨b, off + j, none⟩ = some v) := fun j hj => by
            obtain ⟨_, v, hv, _⟩ := hc j (cs[j]'(by omega)) (List.getElem?_eq_getElem (by omega))
            exact ⟨v, hv⟩
          have hS0 : Held S W w := hat.w ▸ Held.refl S W
          refine ⟨.agg ((List.range i.size).map fun j => (w.cell? ⟨b, off + j, none⟩).getD undef).toArray, fun w1 hw1 => ?_, .agg _ _ ?_ ?_ ?_⟩
          · have hcell : ∀ j, j < i.size → w1.cell? ((⟨b, off, none⟩ : Addr).add j) = some ((w.cell? ⟨b, off + j, none⟩).getD undef) := fun j hj => by
              obtain ⟨v, hv⟩ := hv0 j hj
              rw [hadd, hv w1 hw1, hv w hS0]; rfl
            have hl := run_loadCells (P := C.P) w1 ⟨b, off, none⟩ i.size (fun j => (w.cell? ⟨b, off + j, none⟩).getD undef) hcell
            unfold execOp
            simp only [ho, hu, Instr.loadAt, Instr.sureAddr, loadVar, Sem.run_bind, Sem.run_pure, Result.andThen_ok, isAgg_run hT, hagg, if_true, sizeOf_run hT, hl]
          · simp; omega
          · intro j y hy
            rw [List.getElem?_take] at hy
            split at hy
            · exact (hc j y hy).1
            · cases hy
          · intro j y hy
            rw [List.getElem?_take] at hy
            split at hy
            · rename_i hj
              obtain ⟨_, v, hv, hr⟩ := hc j y hy
              simpa [hj, hv w hS0] using hr
            · cases hy
        · cases h
      · rename_i hagg
        split at h
        · rename_i v' r
          obtain rfl := force_eq h
          obtain ⟨_, u', hu', hr⟩ := hc 0 v rfl
          refine ⟨u', fun w1 hw1 => ?_, hr⟩
          have hu' := hu' w1 hw1
          unfold execOp
          simp only [Nat.add_zero] at hu'
          simp only [ho, hu, Instr.loadAt, Instr.sureAddr, loadVar, Sem.run_bind, Sem.run_pure, Result.andThen_ok, isAgg_run hT, hagg, Bool.false_eq_true, if_false, run_load, hu']
        · cases h
    · cases h
  · cases h

/-! The others. -/
def cmpI (op : BinOp) (a b : Int) : Option AV := match op with
  | .eql => some (.bool (a == b))
  | .neq => some (.bool (a != b))
  | .lss => some (.bool (a < b))
  | .leq => some (.bool (a ≤ b))
  | .gtr => some (.bool (a > b))
  | .geq => some (.bool (a ≥ b))
  | _ => none

def arI (op : BinOp) (k : IntKind) (a b : Int) : Option AV := match op with
  | .add => some (.int k (k.wrap (a + b)))
  | .sub => some (.int k (k.wrap (a - b)))
  | .mul => some (.int k (k.wrap (a * b)))
  | .quo => match decide (b = 0) with
    | false => some (.int k (k.wrap (a.tdiv b)))
    | true => none
  | .rem => match decide (b = 0) with
    | false => some (.int k (a.tmod b))
    | true => none
  | op => cmpI op a b

def cmpS (op : BinOp) (a b : ByteArray) : Option AV := match op with
  | .eql => some (.bool (a.toList == b.toList))
  | .neq => some (.bool !(a.toList == b.toList))
  | .lss => some (.bool (Op.bytesLess a.toList b.toList))
  | _ => none

def abin (op : BinOp) : AV → AV → Option AV
  | .int k a, .int k' b => match decide (k = k') with
    | true => arI op k a b
    | false => none
  | .str a, .str b => cmpS op a b
  | .bool a, .bool b => match op with
    | .eql => some (.bool (a == b))
    | .neq => some (.bool !(a == b))
    | _ => none
  | _, _ => none

def aun (op : UnOp) : AV → Option AV
  | .int k n => match op with
    | .neg => some (.int k (k.wrap (0 - n)))
    | _ => none
  | .bool b => match op with
    | .not => some (.bool !b)
    | _ => none
  | _ => none

def alen : AV → Option AV
  | .str s => some (.int .i64 s.size)
  | .imm _ _ _ es => some (.int .i64 es.length)
  | _ => none

end Go.Am
