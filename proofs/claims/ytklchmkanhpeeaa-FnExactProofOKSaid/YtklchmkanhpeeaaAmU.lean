/- The abstract memory logic, twenty-first part: leaving blocks, makeSlice, places at an index that is not known. -/
import Derived.Test.YtklchmkanhpeeaaAmT
import Derived.Laws.MakeOwn
import Derived.IntWalk
namespace Go.Am
open Go

theorem ltb {a b : Nat} (h : Nat.ble (a + 1) b = true) : a < b := Nat.le_of_ble_eq_true h
theorem leb {a b : Nat} (h : Nat.ble a b = true) : a ≤ b := Nat.le_of_ble_eq_true h

def exitTo (id : Nat) : List AItem → Option (List AItem)
  | [] => none
  | .blk j :: ks => match Nat.beq id j with
    | true => some ks
    | false => exitTo id ks
  | .loop _ :: ks => exitTo id ks
  | .code _ :: ks => exitTo id ks
  | .ops _ _ :: ks => exitTo id ks

theorem run_exit_at {C : Ctx} {Q : AEx → St → Prop} {σ : St} {id : Nat} : ∀ {ks ks' : List AItem}, exitTo id ks = some ks' → Run C Q ks' .normal σ → Run C Q ks (.exit id) σ
  | [], ks', h, _ => by cases h
  | .blk j :: ks, ks', h, hr => by
    unfold exitTo at h
    unfold Run
    split at h
    · rename_i hb
      cases h
      rw [hb]; exact hr
    · rename_i hb
      rw [hb]; exact run_exit_at h hr
  | .loop _ :: ks, ks', h, hr => by
    show Run C Q ks (.exit id) σ
    exact run_exit_at h hr
  | .code _ :: ks, ks', h, hr => by
    show Run C Q ks (.exit id) σ
    exact run_exit_at h hr
  | .ops _ _ :: ks, ks', h, hr => by
    show Run C Q ks (.exit id) σ
    exact run_exit_at h hr

theorem run_exit_to {C : Ctx} {Q : AEx → St → Prop} {σ : St} {id : Nat} {ks ks' : List AItem} (h : exitTo id ks = some ks') (hr : Run C Q ks' .normal σ) : Run C Q (.code (.exit id) :: ks) .normal σ := run_exit (run_exit_at h hr)

theorem run_ret_at {C : Ctx} {Q : AEx → St → Prop} {σ : St} (h : Q .ret σ) : ∀ {ks : List AItem}, Run C Q ks .ret σ
  | [] => h
  | .blk _ :: ks => by show Run C Q ks .ret σ; exact run_ret_at h
  | .loop _ :: ks => by show Run C Q ks .ret σ; exact run_ret_at h
  | .code _ :: ks => by show Run C Q ks .ret σ; exact run_ret_at h
  | .ops _ _ :: ks => by show Run C Q ks .ret σ; exact run_ret_at h

theorem run_ret_to {C : Ctx} {Q : AEx → St → Prop} {σ : St} {ks : List AItem} (h : Q .ret σ) : Run C Q (.code .ret :: ks) .normal σ := run_ret (run_ret_at h)

theorem run_pan_at {C : Ctx} {Q : AEx → St → Prop} {σ : St} {v : AV} (h : Q (.pan v) σ) : ∀ {ks : List AItem}, Run C Q ks (.pan v) σ
  | [] => h
  | .blk _ :: ks => by show Run C Q ks (.pan v) σ; exact run_pan_at h
  | .loop _ :: ks => by show Run C Q ks (.pan v) σ; exact run_pan_at h
  | .code _ :: ks => by show Run C Q ks (.pan v) σ; exact run_pan_at h
  | .ops _ _ :: ks => by show Run C Q ks (.pan v) σ; exact run_pan_at h

/-- A call that gives back one value, leaves all else, and takes names of memory up to tk''. -/
def RetN (O : Heap) (v : AV) (tk'' : Nat) (out : Out) (O' : Heap) (tk' : Nat) : Prop := O' = O ∧ out = .ret v ∧ tk' = tk''

theorem callK_retN {C : Ctx} {σ : St} {K KP : St → AV → Prop} {v : AV} {tk'' : Nat} (h : K ⟨σ.env, σ.l, σ.b, σ.O, tk''⟩ v) : CallK C σ K KP (RetN (C.heap σ) v tk'') :=
  ⟨fun v' O' tk' ⟨h1, h2, h3⟩ => by cases h2; exact ⟨⟨σ.env, σ.l, σ.b, σ.O, tk''⟩, rfl, h1.symm, h3.symm, rfl, h⟩, fun v O' tk' ⟨_, h2, _⟩ => (by cases h2), fun ob O' tk' ⟨_, h2, _⟩ => (by cases h2)⟩

def alenD (d : TypeDesc) (H : Heap) (p : AV) : Option AV := match d with
  | .string => match p with
    | .str s => some (.int .i64 s.size)
    | _ => none
  | .slice _ => match p with
    | .imm _ _ _ es => some (.int .i64 es.length)
    | .osl x => match H x with
      | some o => some (.int .i64 o.es.length)
      | none => none
    | _ => none
  | _ => none

theorem len_step {C : Ctx} {Γ : TTab} (hG : GOK C.P Γ) {σ : St} {o : Oper} {T : TypeId} {x : Operand} (ho : o.op = .call { callee := .builtin .len, args := #[x], argTypes := #[T] }) {p v : AV} (hx : oev σ.env x = some p)
    {i : TI} (hT : look T Γ = some i) (h : alenD i.desc (C.heap σ) p = some v) : Pu C o σ v := by
  unfold alenD at h
  split at h
  · rename_i hd
    split at h
    · exact alen_step hG ho hx hT (.inl ⟨hd, _, rfl⟩) (by simpa [alen', alen] using h)
    · cases h
  · rename_i e hd
    split at h
    · exact alen_step hG ho hx hT (.inr ⟨⟨e, hd⟩, fun ⟨_, h⟩ => by cases h⟩) (by simpa [alen', alen] using h)
    · rename_i x
      exact alen_step hG ho hx hT (.inr ⟨⟨e, hd⟩, fun ⟨_, h⟩ => by cases h⟩) (by unfold alen'; simp only; cases hh : C.heap σ x <;> rw [hh] at h <;> exact h)
    · cases h
  · cases h

theorem aindex_imm {H : Heap} {n tok sz : Nat} {full : Bool} {es : List (List AV)} {e : List AV} (h : es[n]? = some e) : aindex H n (.imm tok sz full es) = some (.cptr e) := by
  unfold aindex; simp only [h]
theorem aindex_osl {H : Heap} {n : Nat} {x : ID} {o : Obj} (ho : H x = some o) (h : n < o.es.length) : aindex H n (.osl x) = some (.optr x n 0) := by
  simp [aindex, ho, h]

theorem takeF_all : ∀ {l : List AV}, (∀ v ∈ l, force v = some v) → takeF l.length l = some l
  | [], _ => rfl
  | v :: l, h => by
    simp [takeF, h v (List.mem_cons_self ..), takeF_all (fun x hx => h x (List.mem_cons_of_mem _ hx))]

theorem setF_all : ∀ {cs l : List AV}, (∀ v ∈ cs, force v = some v) → cs.length = l.length → setF 0 cs l = some cs
  | [], [], _, _ => rfl
  | [], _ :: _, _, h => by cases h
  | _ :: _, [], _, h => by cases h
  | c :: cs, x :: l, h, hl => by
    unfold setF
    simp only [h c (List.mem_cons_self ..), setF_all (fun x hx => h x (List.mem_cons_of_mem _ hx)) (show cs.length = l.length by simpa using hl)]

theorem setE_whole : ∀ {es : List (List AV)} {n : Nat} {cs e : List AV}, es[n]? = some e → setF 0 cs e = some cs → setE n 0 cs es = some (es.set n cs)
  | [], n, cs, e, he, _ => by cases n <;> cases he
  | [e0], 0, cs, e, he, h => by
    cases he
    unfold setE
    simp only [h]
    rfl
  | [e0], n + 1, cs, e, he, _ => by cases n <;> cases he
  | e0 :: e1 :: r, 0, cs, e, he, h => by
    cases he
    unfold setE
    simp only [List.getElem?_cons_zero, h]
  | e0 :: e1 :: r, n + 1, cs, e, he, h => by
    unfold setE
    simp only [he, h]

/-- A whole element of a row is written. -/
theorem astore_row {env : List (Nat × AV)} {l : List (Nat × Obj)} {b : List Obj} {O : Heap} {tk k n : Nat} {o : Obj} {cs : List AV} (hk : look k l = some o) {e : List AV} (he : o.es[n]? = some e) (hl : cs.length = e.length) (hf : ∀ v ∈ cs, force v = some v) (hc : cs.all cl = true)
    {es' : List (List AV)} (hes : o.es.set n cs = es') :
    astore ⟨env, l, b, O, tk⟩ (.optr (.loc k) n 0) cs = some ⟨env, setl k ⟨o.ty, o.sz, o.box, es'⟩ l, b, O, tk⟩ := by
  have : setE n 0 cs o.es = some (o.es.set n cs) := setE_whole he (setF_all hf hl)
  simp [astore, hk, this, hc, hes]

theorem madeCells_get (zc : Array Value) {n k : Nat} (hk : k < n) (hz : 0 < zc.size) : (madeCells zc n)[k]? = some (zc.getD (k % zc.size) undef) := by
  have : k % zc.size < zc.size := Nat.mod_lt _ hz
  simp [madeCells, hk, Array.getD, this, getElem!_pos]

theorem makeSlice_step {C : Ctx} {Γ : TTab} (hG : GOK C.P Γ) {σ : St} {o : Oper} {T e : TypeId} {x y : Operand} (ho : o.op = .makeSlice T x y) {i ie : TI} (hT : look T Γ = some i) (hd : i.desc = .slice e) (he : look e Γ = some ie)
    {d : Nat} (hfree : look d σ.l = none) {k k' : IntKind} {n : Nat} (hx : oev σ.env x = some (.int k n)) (hy : oev σ.env y = some (.int k' n)) (hb : ie.bytes * n ≤ 281474976710656) (hm : n ≤ maxLen) :
    Step C [] o σ (.osl (.loc d)) ⟨σ.env, (d, ⟨e, ie.size, false, List.replicate n ie.zero⟩) :: σ.l, σ.b, σ.O, σ.tk⟩ := by
  intro a w S hat
  have hwS := hat.w
  subst hwS
  have hU := (hG T i hT).und
  rw [hd] at hU
  have hE := hG e ie he
  obtain ⟨ti, z, z1, z2, z3, z4, z5, z6⟩ := zero_rep hE S
  have ux := rep_int (oev_rep hat hx)
  have uy := rep_int (oev_rep hat hy)
  have hpos := hE.pos
  have hzs : z.cells.size = ie.size := by rw [z5, hE.zl]
  have hsize : (madeCells z.cells (n * ie.size)).size = n * ie.size := by simp [madeCells]
  obtain ⟨S', hat', hmov, hβ, hO⟩ := hat.add hfree ⟨e, ie.size, false, List.replicate n ie.zero⟩ (madeCells z.cells (n * ie.size)) (by rw [hsize]; simp) (fun h => by cases h)
    (fun l hl => by rw [List.eq_of_mem_replicate hl]; exact hE.zl) (fun i l j v hi hj => by
      have hin : i < n := by have := (List.getElem?_eq_some_iff.1 hi).1; simpa using this
      have hl : l = ie.zero := by rw [List.getElem?_replicate, if_pos hin] at hi; cases hi; rfl
      subst hl
      have hjs : j < ie.size := by rw [← hE.zl]; exact (List.getElem?_eq_some_iff.1 hj).1
      obtain ⟨q1, u, q2, q3⟩ := z6 j v hj
      have hml := Nat.mul_le_mul_right ie.size (show i + 1 ≤ n from hin)
      rw [Nat.add_mul, Nat.one_mul] at hml
      refine ⟨q1, u, ?_, .clo q3, fun _ => q3⟩
      show (madeCells z.cells (n * ie.size))[i * ie.size + j]? = some u
      rw [madeCells_get z.cells (by omega) (by omega), hzs, Nat.mul_comm, Nat.mul_add_mod, Nat.mod_eq_of_lt hjs]
      simp [q2]) _ (.inr rfl)
  refine ⟨.slice (some ⟨S.w.heap.size, 0, none⟩) n n, _, S', .inl ?_, hat', ?_, keep_alloc hmov (.inl hat'.w)⟩
  · have hrun := run_make (P := C.P) S.w T e ti z hU z1 z4 k k' (n : Int) (n : Int) (by omega) (by omega) (by rw [z3, ← Int.natCast_mul]; exact Int.ofNat_le.2 hb) (by have : maxLen = 9223372036854775807 := rfl; omega)
    rw [z2] at hrun
    simp only [Int.toNat_natCast] at hrun
    unfold execOp
    simp only [ho, ux, uy, Sem.run_bind, hrun, Result.andThen_ok, Sem.run_pure]
  · have := Rep.osl (S := S') (.loc d) _ n _ hO rfl (by rw [hβ, hat'.w]; exact heap_alloc_new S.w _) hsize (by simp) hm
    simpa [hβ] using this

end Go.Am
