/- The abstract memory logic, third part: what the operations do to an abstract state: those that make no memory. -/
import Derived.Test.YtklchmkanhpeeaaAmB
namespace Go.Am
open Go

/-- What is known of a type. -/
structure TI where
  desc : TypeDesc
  size : Nat
  bytes : Nat
  zero : List AV
  flds : List (Nat × Nat) := []

def TI.agg (i : TI) : Bool := match i.desc with
  | .struct _ => true
  | .array _ _ => true
  | _ => false

/-- The zero values' own values. -/
def zval : AV → Value
  | .int k n => .int k n
  | .bool b => .bool b
  | .str s => .string s
  | .nilp => .pointer none
  | .imm _ _ _ _ => .slice none 0 0
  | .nilfn => .nilFunc
  | .nilif => .nilIface
  | _ => undef

def zok : AV → Bool
  | .int _ _ => true
  | .bool _ => true
  | .str _ => true
  | .nilp => true
  | .imm 0 _ true [] => true
  | .nilfn => true
  | .nilif => true
  | _ => false

/-- The fields from number k on: where each begins, how many cells it has. -/
def FOK (P : Program) (fs : Array Field) : Nat → List (Nat × Nat) → Prop
  | _, [] => True
  | k, p :: r => (∃ fl, fs[k]? = some fl ∧ fl.offset = p.1 ∧ (P.info? fl.type).map (·.size) = some p.2 ∧ 0 < p.2) ∧ FOK P fs (k + 1) r

theorem FOK.at_ {P : Program} {fs : Array Field} : ∀ {l : List (Nat × Nat)} {k : Nat}, FOK P fs k l → ∀ (f : Nat) (p : Nat × Nat), l[f]? = some p →
    ∃ fl, fs[k + f]? = some fl ∧ fl.offset = p.1 ∧ (P.info? fl.type).map (·.size) = some p.2 ∧ 0 < p.2
  | [], _, _, f, p, h => by simp at h
  | q :: r, k, h, 0, p, hp => by simp at hp; subst hp; exact h.1
  | q :: r, k, h, f + 1, p, hp => by
    have := FOK.at_ h.2 f p (by simpa using hp)
    rwa [show k + 1 + f = k + (f + 1) by omega] at this

structure TOK (P : Program) (t : TypeId) (i : TI) : Prop where
  und : P.underlying t = some i.desc
  info : ∃ ti z, P.info? t = some ti ∧ ti.size = i.size ∧ ti.bytes = i.bytes ∧ ti.zero = some z ∧ z.cells = (i.zero.map zval).toArray
  zl : i.zero.length = i.size
  zk : i.zero.all zok = true
  fld : i.flds = [] ∨ ∃ fs, i.desc = .struct fs ∧ FOK P fs 0 i.flds ∧ fs.size = i.flds.length
  pos : 0 < i.size

abbrev TTab := List (Nat × TI)
def GOK (P : Program) (Γ : TTab) : Prop := ∀ t i, look t Γ = some i → TOK P t i

theorem GOK.nil (P : Program) : GOK P [] := fun t i h => by simp [look] at h
theorem GOK.cons {P : Program} {Γ : TTab} {t : Nat} {i : TI} (h : TOK P t i) (k : GOK P Γ) : GOK P ((t, i) :: Γ) := fun t' i' hl => by
  unfold look at hl
  split at hl
  · rename_i hb
    cases hl
    rw [Nat.eq_of_beq_eq_true hb]
    exact h
  · exact k _ _ hl

/-- A constant. -/
def avOf : Value → Option AV
  | .int k n => some (.int k n)
  | .bool b => some (.bool b)
  | .string s => some (.str s)
  | .pointer none => some .nilp
  | .slice none 0 0 => some (.imm 0 0 true [])
  | .nilFunc => some .nilfn
  | .nilIface => some .nilif
  | _ => none

def oev (env : List (Nat × AV)) : Operand → Option AV
  | .tmp t => look t env
  | .const v => avOf v
  | .func f => some (.fn (.func f) [] [])
  | .global _ => none

theorem avOf_rep {S : Sit} {v : Value} {x : AV} (h : avOf v = some x) : RepC S x v := by
  unfold avOf at h
  split at h <;> cases h
  · exact .int _ _
  · exact .bool _
  · exact .str _
  · exact .nilp
  · exact .imm0 _ _ _ _ _ (fun _ => rfl) (Nat.zero_le _)
  · exact .nilfn
  · exact .nilif

theorem oev_rep {C : Ctx} {σ : St} {a : Act} {w : World} {S : Sit} (hat : At C σ a w S) {x : Operand} {v : AV} (h : oev σ.env x = some v) : Rep S v (a.eval x) := by
  unfold oev at h
  split at h
  · rename_i t
    obtain ⟨u, hu, hr⟩ := hat.env t v h
    have : a.eval (.tmp t) = u := by simp [Act.eval, hu]
    rw [this]; exact hr
  · exact .clo (avOf_rep h)
  · cases h
    exact .clo (.fn _ [] [] #[] #[] rfl rfl (fun j x hx => by simp at hx) (fun j x hx => by simp at hx))
  · cases h

/-- Values that are what they are. -/
theorem rep_int {S : Sit} {k : IntKind} {n : Int} {u : Value} (h : Rep S (.int k n) u) : u = .int k n := by
  cases h with
  | clo h => cases h; rfl
theorem rep_bool {S : Sit} {b : Bool} {u : Value} (h : Rep S (.bool b) u) : u = .bool b := by
  cases h with
  | clo h => cases h; rfl
theorem rep_str {S : Sit} {s : ByteArray} {u : Value} (h : Rep S (.str s) u) : u = .string s := by
  cases h with
  | clo h => cases h; rfl
theorem rep_optr {S : Sit} (hs : SimH S) {x : ID} {i off : Nat} {u : Value} {o : Obj} (hx : S.O x = some o) (h : Rep S (.optr x i off) u) : u = .pointer (some ⟨S.β x, i * o.sz + off, none⟩) := by
  cases h with
  | clo h => cases h
  | optr _ _ _ o' ho => rw [hx] at ho; cases ho; rfl
  | hidp _ _ _ sz h => rw [hs.hid x sz h] at hx; cases hx
theorem rep_osl {S : Sit} {x : ID} {u : Value} (h : Rep S (.osl x) u) : ∃ o c, ∃ cur : Array Value, S.O x = some o ∧ o.box = false ∧ S.w.heap[S.β x]? = some (.cells cur o.ty (0, 0)) ∧ cur.size = c * o.sz ∧
    o.es.length ≤ c ∧ c ≤ maxLen ∧ u = .slice (some ⟨S.β x, 0, none⟩) o.es.length c := by
  cases h with
  | clo h => cases h
  | osl _ o c cur ho hb hw hc hl hm => exact ⟨o, c, cur, ho, hb, hw, hc, hl, hm, rfl⟩
theorem rep_imm {S : Sit} {tok sz : Nat} {full : Bool} {es : List (List AV)} {u : Value} (h : Rep S (.imm tok sz full es) u) : RepC S (.imm tok sz full es) u := by
  cases h with
  | clo h => exact h
theorem rep_cptr {S : Sit} {cs : List AV} {u : Value} (h : Rep S (.cptr cs) u) : RepC S (.cptr cs) u := by
  cases h with
  | clo h => exact h
theorem rep_agg {S : Sit} {cs : List AV} {u : Value} (h : Rep S (.agg cs) u) : ∃ us, u = .agg us ∧ us.size = cs.length ∧ (∀ (j : Nat) (x : AV), cs[j]? = some x → x.d1 = true) ∧ ∀ j x, cs[j]? = some x → Rep S x (us.getD j undef) := by
  cases h with
  | clo h =>
    cases h with
    | agg _ us hl hs h => exact ⟨us, rfl, hl, hs, fun j x hx => .clo (h j x hx)⟩
  | agg _ us hl hs h => exact ⟨us, rfl, hl, hs, h⟩
theorem rep_tup {S : Sit} {cs : List AV} {u : Value} (h : Rep S (.tup cs) u) : ∃ us, u = .tuple us ∧ us.size = cs.length ∧ ∀ j x, cs[j]? = some x → Rep S x (us.getD j undef) := by
  cases h with
  | clo h =>
    cases h with
    | tup _ us hl h => exact ⟨us, rfl, hl, fun j x hx => .clo (h j x hx)⟩
  | tup _ us hl h => exact ⟨us, rfl, hl, h⟩

/-- The length of what a slice holds. -/
theorem repc_imm_len {S : Sit} {tok sz : Nat} {full : Bool} {es : List (List AV)} {u : Value} (h : RepC S (.imm tok sz full es) u) : ∃ a c, u = .slice a es.length c := by
  cases h with
  | imm0 _ _ _ a c _ _ => exact ⟨a, c, rfl⟩
  | imm _ _ _ _ b o c _ _ _ _ _ _ _ _ _ _ _ _ => exact ⟨_, c, rfl⟩

def St.put (σ : St) (d : Nat) (v : AV) : St := match σ with
  | ⟨env, l, b, O, tk⟩ => ⟨(d, v) :: env, l, b, O, tk⟩

theorem At.put {C : Ctx} {σ : St} {a : Act} {w : World} {S : Sit} (h : At C σ a w S) {d : Nat} {v : AV} {u : Value} (hd : d < C.nt) (hr : Rep S v u) : At C (σ.put d v) (a.put (some d) u) w S := by
  refine ⟨h.w, h.O, h.tk, h.sim, ?_, by simp [Act.put, h.nt], h.defers, h.ext, h.new, h.bl, h.nd, h.bb, h.h0, h.hl, h.hu, h.hv, h.hf⟩
  intro i x hx
  simp only [St.put, look] at hx
  split at hx
  · rename_i hb
    cases hx
    have := Nat.eq_of_beq_eq_true hb
    subst this
    exact ⟨u, by simp [Act.put, h.nt, hd], hr⟩
  · rename_i hb
    have hne : i ≠ d := fun e => by subst e; rw [Nat.beq_refl] at hb; cases hb
    obtain ⟨u', hu, hr'⟩ := h.env i x hx
    exact ⟨u', by simp [Act.put, Ne.symm hne, hu], hr'⟩

/-- Blocks that stood, but those of the objects W, are as they were. -/
def Held (S : Sit) (W : List ID) (w' : World) : Prop := S.w.heap.size ≤ w'.heap.size ∧ ∀ b, b < S.w.heap.size → (∀ x ∈ W, S.β x ≠ b) → w'.heap[b]? = S.w.heap[b]?

def KeepW (S S' : Sit) (W : List ID) : Prop := Held S W S'.w ∧ ∀ x, (S.O x).isSome = true → (S'.O x).isSome = true ∧ (S'.β x = S.β x ∨ S.w.heap.size ≤ S'.β x)

theorem Held.refl (S : Sit) (W : List ID) : Held S W S.w := ⟨Nat.le_refl _, fun _ _ _ => rfl⟩
theorem KeepW.refl (S : Sit) (W : List ID) : KeepW S S W := ⟨.refl S W, fun _ h => ⟨h, .inl rfl⟩⟩
theorem Held.mono {S : Sit} {W W' : List ID} {w : World} (h : Held S W w) (hs : ∀ x ∈ W, x ∈ W') : Held S W' w := ⟨h.1, fun b hb hx => h.2 b hb fun x hm => hx x (hs x hm)⟩
theorem KeepW.mono {S S' : Sit} {W W' : List ID} (h : KeepW S S' W) (hs : ∀ x ∈ W, x ∈ W') : KeepW S S' W' := ⟨h.1.mono hs, h.2⟩
theorem Held.trans {S S' : Sit} {W : List ID} {w : World} (h : KeepW S S' W) (hl : ∀ x ∈ W, (S.O x).isSome = true) (k : Held S' W w) : Held S W w :=
  ⟨Nat.le_trans h.1.1 k.1, fun b hb hx => (k.2 b (Nat.lt_of_lt_of_le hb h.1.1) fun x hm e => (h.2 x (hl x hm)).2.elim (fun q => hx x hm (q ▸ e)) fun q => by omega).trans (h.1.2 b hb hx)⟩

/-- One operation: from σ it yields v and leaves σ'; it writes into W alone. -/
def Step (C : Ctx) (W : List ID) (o : Oper) (σ : St) (v : AV) (σ' : St) : Prop :=
  ∀ a w S, At C σ a w S → ∃ u w' S', ((execOp a.eval o).run C.P w = .ok (.value u) w' ∨ (execOp a.eval o).run C.P w = .ok .skip w' ∧ u = undef) ∧ At C σ' a w' S' ∧ Rep S' v u ∧ KeepW S S' W

theorem Step.mono {C : Ctx} {W W' : List ID} {o : Oper} {σ σ' : St} {v : AV} (h : Step C W o σ v σ') (hs : ∀ x ∈ W, x ∈ W') : Step C W' o σ v σ' :=
  fun a w S hat => let ⟨u, w', S', h1, h2, h3, h4⟩ := h a w S hat; ⟨u, w', S', h1, h2, h3, h4.mono hs⟩

/-- One operation that reads no cell. -/
def Pu (C : Ctx) (o : Oper) (σ : St) (v : AV) : Prop := ∀ a w S, At C σ a w S → ∃ u, (∀ w1, (execOp a.eval o).run C.P w1 = .ok (.value u) w1) ∧ Rep S v u
/-- One operation that reads, in cells that nobody among W writes. -/
def Rd (C : Ctx) (W : List ID) (o : Oper) (σ : St) (v : AV) : Prop := ∀ a w S, At C σ a w S → (∀ x ∈ W, (S.O x).isSome = true) → ∃ u, (∀ w1, Held S W w1 → (execOp a.eval o).run C.P w1 = .ok (.value u) w1) ∧ Rep S v u

theorem Pu.rd {C : Ctx} {o : Oper} {σ : St} {v : AV} (h : Pu C o σ v) (W : List ID) : Rd C W o σ v := fun a w S hat _ => let ⟨u, h1, h2⟩ := h a w S hat; ⟨u, fun w1 _ => h1 w1, h2⟩
theorem Rd.step {C : Ctx} {o : Oper} {σ : St} {v : AV} (h : Rd C [] o σ v) : Step C [] o σ v σ := fun a w S hat =>
  let ⟨u, h1, h2⟩ := h a w S hat fun _ hm => (by cases hm)
  ⟨u, w, S, .inl (h1 w (hat.w ▸ Held.refl S [])), hat, h2, KeepW.refl S []⟩
theorem Pu.step {C : Ctx} {o : Oper} {σ : St} {v : AV} (h : Pu C o σ v) : Step C [] o σ v σ := (h.rd []).step

theorem run_op {C : Ctx} {Q : AEx → St → Prop} {ks : List AItem} {σ σ' : St} {all : Array Oper} {o : Oper} {rest : List Oper} {v : AV} {d : Nat} {W : List ID} (hg : o.guard = none) (hs : Step C W o σ v σ') (hd : o.dst = some d) (hn : d < C.nt)
    (h : Run C Q (.ops all rest :: ks) .normal (σ'.put d v)) : Run C Q (.ops all (o :: rest) :: ks) .normal σ := by
  intro a w S hat
  refine wpList_plain hg fun K hK => ?_
  obtain ⟨u, w', S', h1, hat', hr, _⟩ := hs a w S hat
  have hk := hK _ _ (h _ _ _ (hat'.put hn hr))
  unfold Oper.wp
  rcases h1 with h1 | ⟨h1, rfl⟩
  · rw [h1]; simp only [Oper.upon, hd]; exact hk
  · rw [h1]; simp only [Oper.upon, hd]; exact hk

theorem run_pu {C : Ctx} {Q : AEx → St → Prop} {ks : List AItem} {σ : St} {all : Array Oper} {o : Oper} {rest : List Oper} {v : AV} {d : Nat} (hg : o.guard = none) (hs : Pu C o σ v) (hd : o.dst = some d) (hn : d < C.nt)
    (h : Run C Q (.ops all rest :: ks) .normal (σ.put d v)) : Run C Q (.ops all (o :: rest) :: ks) .normal σ := run_op hg hs.step hd hn h
theorem run_rd {C : Ctx} {Q : AEx → St → Prop} {ks : List AItem} {σ : St} {all : Array Oper} {o : Oper} {rest : List Oper} {v : AV} {d : Nat} (hg : o.guard = none) (hs : Rd C [] o σ v) (hd : o.dst = some d) (hn : d < C.nt)
    (h : Run C Q (.ops all rest :: ks) .normal (σ.put d v)) : Run C Q (.ops all (o :: rest) :: ks) .normal σ := run_op hg hs.step hd hn h

theorem run_op0 {C : Ctx} {Q : AEx → St → Prop} {ks : List AItem} {σ σ' : St} {all : Array Oper} {o : Oper} {rest : List Oper} {v : AV} {W : List ID} (hg : o.guard = none) (hs : Step C W o σ v σ') (hd : o.dst = none)
    (h : Run C Q (.ops all rest :: ks) .normal σ') : Run C Q (.ops all (o :: rest) :: ks) .normal σ := by
  intro a w S hat
  refine wpList_plain hg fun K hK => ?_
  obtain ⟨u, w', S', h1, hat', hr, _⟩ := hs a w S hat
  have hk := hK _ _ (h _ _ _ hat')
  unfold Oper.wp
  rcases h1 with h1 | ⟨h1, rfl⟩
  · rw [h1]; simp only [Oper.upon, hd]; exact hk
  · rw [h1]; simp only [Oper.upon, hd]; exact hk

end Go.Am
