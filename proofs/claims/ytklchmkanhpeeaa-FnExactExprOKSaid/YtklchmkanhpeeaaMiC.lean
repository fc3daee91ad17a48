/- The mirror's ground, third part: proofs and expressions; the parts of trees; what memory a tree lies in; what results stand for. -/
import Derived.Test.YtklchmkanhpeeaaMiB
import Derived.Test.YtklchmkanhpeeaaTree
import Derived.Test.YtklchmkanhpeeaaFTree
namespace Go.Am
open Go

/-- A proof or an expression. -/
inductive Pf where
  | mk (kind n : Int) (forms : List F) (kids : List Pf)

inductive LP where
  | mk (kind n : Int) (q1 : Nat) (f1 : Bool) (fs : List LF) (q : Nat) (f : Bool) (kids : List LP)

mutual
def LP.cells : LP → List AV
  | .mk k n q1 f1 fs q f ks => [.int .i64 k, .int .i64 n, .imm q1 3 f1 (fcellss fs), .imm q 4 f (pcellss ks)]
def pcellss : List LP → List (List AV)
  | [] => []
  | t :: r => t.cells :: pcellss r
end

mutual
def LP.er : LP → Pf
  | .mk k n _ _ fs _ _ ks => .mk k n (fers fs) (pers ks)
def pers : List LP → List Pf
  | [] => []
  | t :: r => t.er :: pers r
end

theorem pcellss_map : ∀ ks : List LP, pcellss ks = ks.map LP.cells
  | [] => by simp [pcellss]
  | t :: r => by simp [pcellss, pcellss_map r]
theorem pers_map : ∀ ks : List LP, pers ks = ks.map LP.er
  | [] => by simp [pers]
  | t :: r => by simp [pers, pers_map r]
theorem pcellss_length (ks : List LP) : (pcellss ks).length = ks.length := by simp [pcellss_map]
theorem pers_length (ks : List LP) : (pers ks).length = ks.length := by simp [pers_map]
theorem pcellss_get {ks : List LP} {i : Nat} {t : LP} (h : ks[i]? = some t) : (pcellss ks)[i]? = some t.cells := by simp [pcellss_map, h]

theorem LP.ind {p : LP → Prop} (h : ∀ k n q1 f1 fs q f ks, (∀ t ∈ ks, p t) → p (.mk k n q1 f1 fs q f ks)) : ∀ t, p t
  | .mk k n q1 f1 fs q f ks => h k n q1 f1 fs q f ks fun t _ => LP.ind h t
theorem Pf.ind {p : Pf → Prop} (h : ∀ k n fs ks, (∀ t ∈ ks, p t) → p (.mk k n fs ks)) : ∀ t, p t
  | .mk k n fs ks => h k n fs ks fun t _ => Pf.ind h t

/-! The parts. -/
def T.kind : T → Int | .mk k _ _ _ => k
def T.n : T → Int | .mk _ n _ _ => n
def T.name : T → ByteArray | .mk _ _ s _ => s
def T.kids : T → List T | .mk _ _ _ ks => ks
def F.kind : F → Int | .mk k _ _ => k
def F.n : F → Int | .mk _ n _ => n
def F.kids : F → List F | .mk _ _ ks => ks
def Pf.kind : Pf → Int | .mk k _ _ _ => k
def Pf.n : Pf → Int | .mk _ n _ _ => n
def Pf.forms : Pf → List F | .mk _ _ fs _ => fs
def Pf.kids : Pf → List Pf | .mk _ _ _ ks => ks

theorem T.eta (t : T) : T.mk t.kind t.n t.name t.kids = t := by cases t; rfl
theorem F.eta (t : F) : F.mk t.kind t.n t.kids = t := by cases t; rfl
theorem Pf.eta (t : Pf) : Pf.mk t.kind t.n t.forms t.kids = t := by cases t; rfl

/-! Lengths, and elements. -/
theorem tlen (ks : List LT) : (cellss ks).length = (ers ks).length := by rw [cellss_length, ers_length]
theorem flen (ks : List LF) : (fcellss ks).length = (fers ks).length := by rw [fcellss_length, fers_length]
theorem plen (ks : List LP) : (pcellss ks).length = (pers ks).length := by rw [pcellss_length, pers_length]
theorem ilen {k : IntKind} (ks : List Int) : (ks.map fun n => [AV.int k n]).length = ks.length := List.length_map ..
theorem slen (ks : List ByteArray) : (ks.map fun s => [AV.str s]).length = ks.length := List.length_map ..

theorem tidx {ks : List LT} {i : Int} {x : T} (h : idx (ers ks) i = some x) : ∃ k n s q f ks', x = LT.er (.mk k n s q f ks') ∧ (cellss ks)[i.toNat]? = some [.int .i64 k, .int .i64 n, .str s, .imm q 4 f (cellss ks')] ∧ ((i.toNat : Nat) : Int) = i := by
  rw [ers_map] at h
  obtain ⟨⟨k, n, s, q, f, ks'⟩, h1, h2, h3⟩ := idx_map h
  exact ⟨k, n, s, q, f, ks', h2.symm, cellss_get h1, h3⟩
theorem fidx {ks : List LF} {i : Int} {x : F} (h : idx (fers ks) i = some x) : ∃ k n q f ks', x = LF.er (.mk k n q f ks') ∧ (fcellss ks)[i.toNat]? = some [.int .i64 k, .int .i64 n, .imm q 3 f (fcellss ks')] ∧ ((i.toNat : Nat) : Int) = i := by
  rw [fers_map] at h
  obtain ⟨⟨k, n, q, f, ks'⟩, h1, h2, h3⟩ := idx_map h
  exact ⟨k, n, q, f, ks', h2.symm, fcellss_get h1, h3⟩
theorem pidx {ks : List LP} {i : Int} {x : Pf} (h : idx (pers ks) i = some x) : ∃ k n q1 f1 fs q f ks', x = LP.er (.mk k n q1 f1 fs q f ks') ∧ (pcellss ks)[i.toNat]? = some [.int .i64 k, .int .i64 n, .imm q1 3 f1 (fcellss fs), .imm q 4 f (pcellss ks')] ∧ ((i.toNat : Nat) : Int) = i := by
  rw [pers_map] at h
  obtain ⟨⟨k, n, q1, f1, fs, q, f, ks'⟩, h1, h2, h3⟩ := idx_map h
  exact ⟨k, n, q1, f1, fs, q, f, ks', h2.symm, pcellss_get h1, h3⟩
theorem iidx {k : IntKind} {ks : List Int} {i : Int} {x : Int} (h : idx ks i = some x) : (ks.map fun n => [AV.int k n])[i.toNat]? = some [.int k x] ∧ ((i.toNat : Nat) : Int) = i := by
  obtain ⟨a, h1, h2, h3⟩ := idx_map (f := id) (l := ks) (by rw [List.map_id]; exact h)
  cases h2
  exact ⟨by simp [h1], h3⟩
theorem sidx {ks : List ByteArray} {i : Int} {x : ByteArray} (h : idx ks i = some x) : (ks.map fun s => [AV.str s])[i.toNat]? = some [.str x] ∧ ((i.toNat : Nat) : Int) = i := by
  obtain ⟨a, h1, h2, h3⟩ := idx_map (f := id) (l := ks) (by rw [List.map_id]; exact h)
  cases h2
  exact ⟨by simp [h1], h3⟩

theorem cellss_app (a b : List LT) : cellss a ++ cellss b = cellss (a ++ b) := by simp [cellss_map]
theorem ers_app (a b : List LT) : ers a ++ ers b = ers (a ++ b) := by simp [ers_map]
theorem fcellss_app (a b : List LF) : fcellss a ++ fcellss b = fcellss (a ++ b) := by simp [fcellss_map]
theorem fers_app (a b : List LF) : fers a ++ fers b = fers (a ++ b) := by simp [fers_map]
theorem pcellss_app (a b : List LP) : pcellss a ++ pcellss b = pcellss (a ++ b) := by simp [pcellss_map]
theorem pers_app (a b : List LP) : pers a ++ pers b = pers (a ++ b) := by simp [pers_map]
theorem icells_app {k : IntKind} (a b : List Int) : (a.map fun n => [AV.int k n]) ++ (b.map fun n => [AV.int k n]) = (a ++ b).map fun n => [AV.int k n] := (List.map_append ..).symm
theorem scells_app (a b : List ByteArray) : (a.map fun n => [AV.str n]) ++ (b.map fun n => [AV.str n]) = (a ++ b).map fun n => [AV.str n] := (List.map_append ..).symm

theorem cellss_sz (ks : List LT) : ∀ e ∈ cellss ks, e.length = 4 := by
  intro e he; rw [cellss_map] at he; obtain ⟨t, _, rfl⟩ := List.mem_map.1 he; cases t; rfl
theorem fcellss_sz (ks : List LF) : ∀ e ∈ fcellss ks, e.length = 3 := by
  intro e he; rw [fcellss_map] at he; obtain ⟨t, _, rfl⟩ := List.mem_map.1 he; cases t; rfl
theorem pcellss_sz (ks : List LP) : ∀ e ∈ pcellss ks, e.length = 4 := by
  intro e he; rw [pcellss_map] at he; obtain ⟨t, _, rfl⟩ := List.mem_map.1 he; cases t; rfl
theorem icells_sz {k : IntKind} (ks : List Int) : ∀ e ∈ ks.map fun n => [AV.int k n], e.length = 1 := by
  intro e he; obtain ⟨t, _, rfl⟩ := List.mem_map.1 he; rfl
theorem scells_sz (ks : List ByteArray) : ∀ e ∈ ks.map fun n => [AV.str n], e.length = 1 := by
  intro e he; obtain ⟨t, _, rfl⟩ := List.mem_map.1 he; rfl

/-! What memory a tree lies in: the names of the memory of its lists that are not empty. -/
mutual
def LT.toks : LT → List Nat
  | .mk _ _ _ _ _ [] => []
  | .mk _ _ _ q _ (t :: r) => q :: (t.toks ++ ttoks r)
def ttoks : List LT → List Nat
  | [] => []
  | t :: r => t.toks ++ ttoks r
end
mutual
def LF.toks : LF → List Nat
  | .mk _ _ _ _ [] => []
  | .mk _ _ q _ (t :: r) => q :: (t.toks ++ ftoks r)
def ftoks : List LF → List Nat
  | [] => []
  | t :: r => t.toks ++ ftoks r
end
def fstoks (q : Nat) (fs : List LF) : List Nat := match fs with
  | [] => []
  | _ => q :: ftoks fs
mutual
def LP.toks : LP → List Nat
  | .mk _ _ q1 _ fs _ _ [] => fstoks q1 fs
  | .mk _ _ q1 _ fs q _ (t :: r) => fstoks q1 fs ++ q :: (t.toks ++ ptoks r)
def ptoks : List LP → List Nat
  | [] => []
  | t :: r => t.toks ++ ptoks r
end
def tstoks (q : Nat) (ks : List LT) : List Nat := match ks with
  | [] => []
  | _ => q :: ttoks ks
def pstoks (q : Nat) (ks : List LP) : List Nat := match ks with
  | [] => []
  | _ => q :: ptoks ks

theorem LT.toks_eq (k n : Int) (s : ByteArray) (q : Nat) (f : Bool) (ks : List LT) : (LT.mk k n s q f ks).toks = tstoks q ks := by
  cases ks <;> simp [LT.toks, tstoks, ttoks]
theorem LF.toks_eq (k n : Int) (q : Nat) (f : Bool) (ks : List LF) : (LF.mk k n q f ks).toks = fstoks q ks := by
  cases ks <;> simp [LF.toks, fstoks, ftoks]
theorem LP.toks_eq (k n : Int) (q1 : Nat) (f1 : Bool) (fs : List LF) (q : Nat) (f : Bool) (ks : List LP) : (LP.mk k n q1 f1 fs q f ks).toks = fstoks q1 fs ++ pstoks q ks := by
  cases ks <;> simp [LP.toks, pstoks, ptoks]
theorem ttoks_app (a b : List LT) : ttoks (a ++ b) = ttoks a ++ ttoks b := by
  induction a with
  | nil => rfl
  | cons t r ih => simp [ttoks, ih]
theorem ftoks_app (a b : List LF) : ftoks (a ++ b) = ftoks a ++ ftoks b := by
  induction a with
  | nil => rfl
  | cons t r ih => simp [ftoks, ih]
theorem ptoks_app (a b : List LP) : ptoks (a ++ b) = ptoks a ++ ptoks b := by
  induction a with
  | nil => rfl
  | cons t r ih => simp [ptoks, ih]

/-- Names of memory that are each used once, all from lo on and below hi. -/
def Fr (lo hi : Nat) (l : List Nat) : Prop := l.Nodup ∧ ∀ x ∈ l, lo ≤ x ∧ x < hi

theorem Fr.nil (lo hi : Nat) : Fr lo hi [] := ⟨List.nodup_nil, fun x h => by cases h⟩
theorem Fr.mono {lo hi lo' hi' : Nat} {l : List Nat} (h : Fr lo hi l) (h1 : lo' ≤ lo) (h2 : hi ≤ hi') : Fr lo' hi' l := ⟨h.1, fun x hx => ⟨Nat.le_trans h1 (h.2 x hx).1, Nat.lt_of_lt_of_le (h.2 x hx).2 h2⟩⟩
theorem Fr.app {lo mi hi : Nat} {a b : List Nat} (h : Fr lo mi a) (k : Fr mi hi b) (h1 : lo ≤ mi) (h2 : mi ≤ hi) : Fr lo hi (a ++ b) := by
  refine ⟨List.nodup_append.2 ⟨h.1, k.1, fun x hx y hy e => ?_⟩, fun x hx => ?_⟩
  · have := (h.2 x hx).2; have := (k.2 y hy).1; omega
  · rcases List.mem_append.1 hx with hx | hx
    · exact ⟨(h.2 x hx).1, Nat.lt_of_lt_of_le (h.2 x hx).2 h2⟩
    · exact ⟨Nat.le_trans h1 (k.2 x hx).1, (k.2 x hx).2⟩
/-- A list's own memory, named behind that of its elements. -/
theorem Fr.top {lo hi q : Nat} {a : List Nat} (h : Fr lo q a) (h1 : lo ≤ q) (h2 : q < hi) : Fr lo hi (q :: a) := by
  refine ⟨List.nodup_cons.2 ⟨fun hx => by have := (h.2 q hx).2; omega, h.1⟩, fun x hx => ?_⟩
  rcases List.mem_cons.1 hx with rfl | hx
  · exact ⟨h1, h2⟩
  · exact ⟨(h.2 x hx).1, by have := (h.2 x hx).2; omega⟩
theorem Fr.tstop {lo hi q : Nat} {ks : List LT} (h : Fr lo q (ttoks ks)) (h1 : lo ≤ q) (h2 : q < hi) : Fr lo hi (tstoks q ks) := by
  cases ks with
  | nil => exact .nil _ _
  | cons t r => exact h.top h1 h2
theorem Fr.fstop {lo hi q : Nat} {ks : List LF} (h : Fr lo q (ftoks ks)) (h1 : lo ≤ q) (h2 : q < hi) : Fr lo hi (fstoks q ks) := by
  cases ks with
  | nil => exact .nil _ _
  | cons t r => exact h.top h1 h2
theorem Fr.pstop {lo hi q : Nat} {ks : List LP} (h : Fr lo q (ptoks ks)) (h1 : lo ≤ q) (h2 : q < hi) : Fr lo hi (pstoks q ks) := by
  cases ks with
  | nil => exact .nil _ _
  | cons t r => exact h.top h1 h2

/-! Lists made at their length, filled one by one. -/
def pad {α : Type} (n : Nat) (z : α) (a : List α) : List α := a ++ List.replicate (n - a.length) z
def zT : LT := .mk 0 0 ⟨#[]⟩ 0 true []
def zF : LF := .mk 0 0 0 true []
def zP : LP := .mk 0 0 0 true [] 0 true []
theorem pad_full {α : Type} {n : Nat} {z : α} {a : List α} (h : a.length = n) : pad n z a = a := by simp [pad, h]
theorem pad_len {α : Type} {n : Nat} {z : α} {a : List α} (h : a.length ≤ n) : (pad n z a).length = n := by simp [pad]; omega
theorem pad_set {α : Type} {n : Nat} {z t : α} {a : List α} (h : a.length < n) : (pad n z a).set a.length t = pad n z (a ++ [t]) := by
  unfold pad
  obtain ⟨m, hm⟩ : ∃ m, n - a.length = m + 1 := ⟨n - a.length - 1, by omega⟩
  rw [hm, List.replicate_succ, List.set_append_right (h := Nat.le_refl _)]
  simp only [Nat.sub_self, List.set_cons_zero, List.length_append, List.length_cons, List.length_nil, Nat.zero_add, List.append_assoc, List.singleton_append]
  congr 3
  omega
theorem padT_mk (n : Nat) : List.replicate n zT.cells = cellss (pad n zT []) := by simp [pad, cellss_map]
theorem padF_mk (n : Nat) : List.replicate n zF.cells = fcellss (pad n zF []) := by simp [pad, fcellss_map]
theorem padP_mk (n : Nat) : List.replicate n zP.cells = pcellss (pad n zP []) := by simp [pad, pcellss_map]
theorem padT_full {n : Nat} {a : List LT} (h : (ers a).length = n) : cellss (pad n zT a) = cellss a := by rw [pad_full (by rw [← h, ers_length])]
theorem padF_full {n : Nat} {a : List LF} (h : (fers a).length = n) : fcellss (pad n zF a) = fcellss a := by rw [pad_full (by rw [← h, fers_length])]
theorem padP_full {n : Nat} {a : List LP} (h : (pers a).length = n) : pcellss (pad n zP a) = pcellss a := by rw [pad_full (by rw [← h, pers_length])]
theorem padT_len {n : Nat} {a : List LT} {i : Int} (h : i = ((ers a).length : Int) ∧ (ers a).length < n) : i.toNat < (cellss (pad n zT a)).length := by
  rw [ers_length] at h; rw [cellss_length, pad_len (by omega)]; omega
theorem padF_len {n : Nat} {a : List LF} {i : Int} (h : i = ((fers a).length : Int) ∧ (fers a).length < n) : i.toNat < (fcellss (pad n zF a)).length := by
  rw [fers_length] at h; rw [fcellss_length, pad_len (by omega)]; omega
theorem padP_len {n : Nat} {a : List LP} {i : Int} (h : i = ((pers a).length : Int) ∧ (pers a).length < n) : i.toNat < (pcellss (pad n zP a)).length := by
  rw [pers_length] at h; rw [pcellss_length, pad_len (by omega)]; omega
theorem padT_get {n : Nat} {a : List LT} {i : Int} (h : i = ((ers a).length : Int) ∧ (ers a).length < n) : (cellss (pad n zT a))[i.toNat]? = some zT.cells := by
  rw [ers_length] at h; rw [cellss_map, h.1, Int.toNat_natCast, pad, List.map_append, List.map_replicate, List.getElem?_append_right (by simp), List.getElem?_replicate]; simp; omega
theorem padF_get {n : Nat} {a : List LF} {i : Int} (h : i = ((fers a).length : Int) ∧ (fers a).length < n) : (fcellss (pad n zF a))[i.toNat]? = some zF.cells := by
  rw [fers_length] at h; rw [fcellss_map, h.1, Int.toNat_natCast, pad, List.map_append, List.map_replicate, List.getElem?_append_right (by simp), List.getElem?_replicate]; simp; omega
theorem padP_get {n : Nat} {a : List LP} {i : Int} (h : i = ((pers a).length : Int) ∧ (pers a).length < n) : (pcellss (pad n zP a))[i.toNat]? = some zP.cells := by
  rw [pers_length] at h; rw [pcellss_map, h.1, Int.toNat_natCast, pad, List.map_append, List.map_replicate, List.getElem?_append_right (by simp), List.getElem?_replicate]; simp; omega
theorem padT_set {n : Nat} {a : List LT} {t : LT} {i : Int} (h : i = ((ers a).length : Int) ∧ (ers a).length < n) : (cellss (pad n zT a)).set i.toNat t.cells = cellss (pad n zT (a ++ [t])) := by
  rw [ers_length] at h; rw [cellss_map, cellss_map, ← pad_set h.2, h.1, Int.toNat_natCast, List.map_set]
theorem padF_set {n : Nat} {a : List LF} {t : LF} {i : Int} (h : i = ((fers a).length : Int) ∧ (fers a).length < n) : (fcellss (pad n zF a)).set i.toNat t.cells = fcellss (pad n zF (a ++ [t])) := by
  rw [fers_length] at h; rw [fcellss_map, fcellss_map, ← pad_set h.2, h.1, Int.toNat_natCast, List.map_set]
theorem padP_set {n : Nat} {a : List LP} {t : LP} {i : Int} (h : i = ((pers a).length : Int) ∧ (pers a).length < n) : (pcellss (pad n zP a)).set i.toNat t.cells = pcellss (pad n zP (a ++ [t])) := by
  rw [pers_length] at h; rw [pcellss_map, pcellss_map, ← pad_set h.2, h.1, Int.toNat_natCast, List.map_set]
theorem forceT (t : LT) : ∀ v ∈ t.cells, force v = some v := by cases t; intro v hv; simp only [LT.cells, List.mem_cons, List.not_mem_nil, or_false] at hv; rcases hv with rfl | rfl | rfl | rfl <;> rfl
theorem forceF (t : LF) : ∀ v ∈ t.cells, force v = some v := by cases t; intro v hv; simp only [LF.cells, List.mem_cons, List.not_mem_nil, or_false] at hv; rcases hv with rfl | rfl | rfl <;> rfl
theorem forceP (t : LP) : ∀ v ∈ t.cells, force v = some v := by cases t; intro v hv; simp only [LP.cells, List.mem_cons, List.not_mem_nil, or_false] at hv; rcases hv with rfl | rfl | rfl | rfl <;> rfl
theorem nat_of {i : Int} {n : Nat} {p : Prop} (h : i = (n : Int) ∧ p) : ((i.toNat : Nat) : Int) = i := by omega

theorem makePad_step {C : Ctx} {Γ : TTab} (hG : GOK C.P Γ) {σ : St} {o : Oper} {T e : TypeId} {x y : Operand} (ho : o.op = .makeSlice T x y) {i ie : TI} (hT : look T Γ = some i) (hd : i.desc = .slice e) (he : look e Γ = some ie)
    {d : Nat} (hfree : look d σ.l = none) {k k' : IntKind} {n : Nat} (hx : oev σ.env x = some (.int k n)) (hy : oev σ.env y = some (.int k' n)) (hb : n ≤ 1099511627776) (hby : ie.bytes ≤ 128) {es' : List (List AV)} (hes : List.replicate n ie.zero = es') :
    Step C [] o σ (.osl (.loc d)) ⟨σ.env, (d, ⟨e, ie.size, false, es'⟩) :: σ.l, σ.b, σ.O, σ.tk⟩ := by
  subst hes
  exact makeSlice_step hG ho hT hd he hfree hx hy (Nat.le_trans (Nat.mul_le_mul hby hb) (by decide)) (by have : maxLen = 9223372036854775807 := rfl; omega)

theorem indexOsl_step {C : Ctx} {Γ : TTab} (hG : GOK C.P Γ) {σ : St} {o : Oper} {T : TypeId} {x y : Operand} (ho : o.op = .indexAddr T x y) {k : Nat} {ob : Obj} {kk : IntKind} {i : Int}
    (hx : oev σ.env x = some (.osl (.loc k))) (hy : oev σ.env y = some (.int kk i)) (hk : look k σ.l = some ob) (hi : ((i.toNat : Nat) : Int) = i) {t j : TI} {e : TypeId} (hT : look T Γ = some t) (hd : t.desc = .slice e) (he : look e Γ = some j) (hsz : ob.sz = j.size)
    (hlt : i.toNat < ob.es.length) : Pu C o σ (.optr (.loc k) i.toNat 0) := by
  rw [← hi] at hy
  exact indexAddr_step hG ho hx hy hT hd he (fun ob' h => by
    have h : look k σ.l = some ob' := h
    rw [hk] at h; cases h; exact hsz) (aindex_osl (o := ob) hk hlt)

/-! Lists built up. -/
theorem Fr.tcons {lo mi hi : Nat} {k n : Int} {s : ByteArray} {q : Nat} {f : Bool} {ks r : List LT} (h : Fr lo mi (tstoks q ks)) (h2 : Fr mi hi (ttoks r)) (l1 : lo ≤ mi) (l2 : mi ≤ hi) : Fr lo hi (ttoks (LT.mk k n s q f ks :: r)) := by
  simp only [ttoks, LT.toks_eq]; exact h.app h2 l1 l2
theorem Fr.fcons {lo mi hi : Nat} {k n : Int} {q : Nat} {f : Bool} {ks r : List LF} (h : Fr lo mi (fstoks q ks)) (h2 : Fr mi hi (ftoks r)) (l1 : lo ≤ mi) (l2 : mi ≤ hi) : Fr lo hi (ftoks (LF.mk k n q f ks :: r)) := by
  simp only [ftoks, LF.toks_eq]; exact h.app h2 l1 l2
theorem Fr.pcons {lo mi hi : Nat} {k n : Int} {q1 : Nat} {f1 : Bool} {fs : List LF} {q : Nat} {f : Bool} {ks r : List LP} (h : Fr lo mi (fstoks q1 fs ++ pstoks q ks)) (h2 : Fr mi hi (ptoks r)) (l1 : lo ≤ mi) (l2 : mi ≤ hi) : Fr lo hi (ptoks (LP.mk k n q1 f1 fs q f ks :: r)) := by
  simp only [ptoks, LP.toks_eq]; exact h.app h2 l1 l2
theorem Fr.tsnoc {lo mi hi : Nat} {a : List LT} {k n : Int} {s : ByteArray} {q : Nat} {f : Bool} {ks : List LT} (h : Fr lo mi (ttoks a)) (h2 : Fr mi hi (tstoks q ks)) (l1 : lo ≤ mi) (l2 : mi ≤ hi) : Fr lo hi (ttoks (a ++ [LT.mk k n s q f ks])) := by
  simp only [ttoks_app, ttoks, LT.toks_eq, List.append_nil]; exact h.app h2 l1 l2
theorem Fr.fsnoc {lo mi hi : Nat} {a : List LF} {k n : Int} {q : Nat} {f : Bool} {ks : List LF} (h : Fr lo mi (ftoks a)) (h2 : Fr mi hi (fstoks q ks)) (l1 : lo ≤ mi) (l2 : mi ≤ hi) : Fr lo hi (ftoks (a ++ [LF.mk k n q f ks])) := by
  simp only [ftoks_app, ftoks, LF.toks_eq, List.append_nil]; exact h.app h2 l1 l2
theorem Fr.psnoc {lo mi hi : Nat} {a : List LP} {k n : Int} {q1 : Nat} {f1 : Bool} {fs : List LF} {q : Nat} {f : Bool} {ks : List LP} (h : Fr lo mi (ptoks a)) (h2 : Fr mi hi (fstoks q1 fs ++ pstoks q ks)) (l1 : lo ≤ mi) (l2 : mi ≤ hi) : Fr lo hi (ptoks (a ++ [LP.mk k n q1 f1 fs q f ks])) := by
  simp only [ptoks_app, ptoks, LP.toks_eq, List.append_nil]; exact h.app h2 l1 l2

theorem Fr.tpad {lo hi n : Nat} {a : List LT} (h : Fr lo hi (ttoks a)) : Fr lo hi (ttoks (pad n zT a)) := by
  have key : ∀ m, ttoks (List.replicate m zT) = [] := fun m => by
    induction m with
    | zero => rfl
    | succ m ih => rw [List.replicate_succ]; simp only [ttoks, ih]; rfl
  rw [pad, ttoks_app, key, List.append_nil]; exact h

theorem entS {bor : List ID} {v : AV} (h : cl v = true) : Ent bor v v := .same v h

/-- append, with the lengths said otherwise. -/
theorem appendM_step {C : Ctx} {Γ : TTab} (hG : GOK C.P Γ) {σ : St} {op : Oper} {T e : TypeId} {x y : Operand} (ho : op.op = .call { callee := .builtin .append, args := #[x, y], argTypes := #[T, T] })
    {i ie : TI} (hT : look T Γ = some i) (hd : i.desc = .slice e) (he : look e Γ = some ie) {k : Nat} {o : Obj} {q : AV} {es2 : List (List AV)} (hx : oev σ.env x = some (.osl (.loc k))) (hy : oev σ.env y = some q)
    (hk : look k σ.l = some o) (hb : o.box = false) (hty : o.ty = e) (hsz : o.sz = ie.size) (hq : elems σ q = some es2) (hes2 : ∀ e ∈ es2, e.length = ie.size) {m n : Nat} (l1 : o.es.length = m) (l2 : es2.length = n)
    (hlen : m + n ≤ 1099511627776) (hby : ie.bytes ≤ 128) {es' : List (List AV)} (hes : o.es ++ es2 = es') :
    Step C [.loc k] op σ (.osl (.loc k)) ⟨subE k .jnk σ.env, setl k ⟨o.ty, o.sz, o.box, es'⟩ (subO k .jnk σ.l), σ.b, σ.O, σ.tk⟩ := by
  subst l1
  subst l2
  refine append_step' hG ho hT hd he hx hy hk hb hty hsz hq hes2 ?_ (by omega) hes
  exact Nat.le_trans (Nat.mul_le_mul hlen hby) (by decide)

/-! What results stand for. 'fr': all their memory is new, each piece used once. -/
def VT (fr : Bool) (lo hi : Nat) (r : T) (v : AV) : Prop := ∃ k n s q f ks, v = .agg [.int .i64 k, .int .i64 n, .str s, .imm q 4 f (cellss ks)] ∧ r = .mk k n s (ers ks) ∧ (fr = true → Fr lo hi (tstoks q ks))
def VF (fr : Bool) (lo hi : Nat) (r : F) (v : AV) : Prop := ∃ k n q f ks, v = .agg [.int .i64 k, .int .i64 n, .imm q 3 f (fcellss ks)] ∧ r = .mk k n (fers ks) ∧ (fr = true → Fr lo hi (fstoks q ks))
def VP (fr : Bool) (lo hi : Nat) (r : Pf) (v : AV) : Prop := ∃ k n q1 f1 fs q f ks, v = .agg [.int .i64 k, .int .i64 n, .imm q1 3 f1 (fcellss fs), .imm q 4 f (pcellss ks)] ∧ r = .mk k n (fers fs) (pers ks) ∧ (fr = true → Fr lo hi (fstoks q1 fs ++ pstoks q ks))
def VTs (fr : Bool) (lo hi : Nat) (r : List T) (v : AV) : Prop := ∃ q f ks, v = .imm q 4 f (cellss ks) ∧ r = ers ks ∧ (fr = true → Fr lo hi (tstoks q ks))
def VFs (fr : Bool) (lo hi : Nat) (r : List F) (v : AV) : Prop := ∃ q f ks, v = .imm q 3 f (fcellss ks) ∧ r = fers ks ∧ (fr = true → Fr lo hi (fstoks q ks))
def VPs (fr : Bool) (lo hi : Nat) (r : List Pf) (v : AV) : Prop := ∃ q f ks, v = .imm q 4 f (pcellss ks) ∧ r = pers ks ∧ (fr = true → Fr lo hi (pstoks q ks))
def VIs (r : List Int) (v : AV) : Prop := ∃ q f, v = .imm q 1 f (r.map fun n => [.int .i64 n])
def VSs (r : List ByteArray) (v : AV) : Prop := ∃ q f, v = .imm q 1 f (r.map fun s => [.str s])


end Go.Am
