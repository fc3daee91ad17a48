/- The abstract memory logic, eleventh part: a row that nobody writes any more. -/
import Derived.Test.YtklchmkanhpeeaaAmJ
namespace Go.Am
open Go

def isLoc (k : Nat) : ID → Bool
  | .loc j => Nat.beq j k
  | _ => false

theorem isLoc_true {k : Nat} {x : ID} (h : isLoc k x = true) : x = .loc k := by
  unfold isLoc at h
  split at h
  · rw [Nat.eq_of_beq_eq_true h]
  · cases h
theorem isLoc_false {k : Nat} {x : ID} (h : isLoc k x = false) : x ≠ .loc k := by
  rintro rfl
  simp [isLoc] at h

def occC (k : Nat) : List AV → Bool
  | [] => false
  | v :: l => match v with
    | .optr x _ _ => match isLoc k x with
      | true => true
      | false => occC k l
    | _ => occC k l

/-- In a cell: r for the row k, nothing known for a pointer into it. -/
def subC (k : Nat) (r : AV) : AV → AV
  | .osl x => match isLoc k x with
    | true => r
    | false => .osl x
  | .optr x i off => match isLoc k x with
    | true => .jnk
    | false => .optr x i off
  | .fn f a b => match occC k a || occC k b with
    | true => .jnk
    | false => .fn f a b
  | v => v

def subL (k : Nat) (r : AV) : List AV → List AV
  | [] => []
  | v :: l => match v with
    | .osl x => match isLoc k x with
      | true => r :: subL k r l
      | false => .osl x :: subL k r l
    | .optr x i off => match isLoc k x with
      | true => .jnk :: subL k r l
      | false => .optr x i off :: subL k r l
    | .fn f a b => match occC k a || occC k b with
      | true => .jnk :: subL k r l
      | false => .fn f a b :: subL k r l
    | v => v :: subL k r l

/-- In a value at hand. -/
def subV (k : Nat) (r : AV) : AV → AV
  | .osl x => match isLoc k x with
    | true => r
    | false => .osl x
  | .optr x i off => match isLoc k x with
    | true => .any
    | false => .optr x i off
  | .fn f a b => match (occC k a || occC k b) || !(allc0 a && allc0 b) with
    | true => .any
    | false => .fn f a b
  | .agg cs => .agg (subL k r cs)
  | .tup _ => .any
  | v => v

def subE (k : Nat) (r : AV) : List (Nat × AV) → List (Nat × AV)
  | [] => []
  | (i, v) :: l => (i, subV k r v) :: subE k r l

def subO (k : Nat) (r : AV) : List (Nat × Obj) → List (Nat × Obj)
  | [] => []
  | (i, o) :: l => match o with
    | ⟨ty, sz, box, es⟩ => match box with
      | true => match es with
        | [e] => (i, ⟨ty, sz, true, [subL k r e]⟩) :: subO k r l
        | es => (i, ⟨ty, sz, true, es.map (subL k r)⟩) :: subO k r l
      | false => (i, ⟨ty, sz, false, es⟩) :: subO k r l

def Obj.sub (k : Nat) (r : AV) (o : Obj) : Obj := if o.box then { o with es := o.es.map (subL k r) } else o

theorem look_subE {k : Nat} {r : AV} : ∀ {l : List (Nat × AV)} (i : Nat), look i (subE k r l) = (look i l).map (subV k r)
  | [], i => rfl
  | (j, v) :: l, i => by
    simp only [subE, look]
    cases Nat.beq i j with
    | true => rfl
    | false => exact look_subE i

theorem look_subO {k : Nat} {r : AV} : ∀ {l : List (Nat × Obj)} (i : Nat), look i (subO k r l) = (look i l).map (Obj.sub k r)
  | [], i => rfl
  | (j, ⟨ty, sz, box, es⟩) :: l, i => by
    have ih := look_subO (k := k) (r := r) (l := l) i
    simp only [subO]
    cases box with
    | true =>
      simp only
      have key : ∀ es' : List (List AV), es' = es.map (subL k r) → look i ((j, (⟨ty, sz, true, es'⟩ : Obj)) :: subO k r l) = (look i ((j, (⟨ty, sz, true, es⟩ : Obj)) :: l)).map (Obj.sub k r) := by
        intro es' he
        subst he
        simp only [look]
        cases Nat.beq i j with
        | true => simp [Obj.sub]
        | false => exact ih
      match es, key with
      | [], key => exact key _ rfl
      | [e], key => exact key _ rfl
      | e :: f :: r, key => exact key _ rfl
    | false =>
      simp only [look]
      cases Nat.beq i j with
      | true => simp [Obj.sub]
      | false => exact ih

theorem subL_get {k : Nat} {r : AV} : ∀ {l : List AV} (j : Nat), (subL k r l)[j]? = (l[j]?).map (subC k r)
  | [], j => by simp [subL]
  | v :: l, j => by
    have ih := subL_get (k := k) (r := r) (l := l)
    cases j with
    | zero =>
      cases v <;> simp [subL, subC] <;> split <;> simp_all
    | succ j =>
      have : (subL k r (v :: l))[j + 1]? = (subL k r l)[j]? := by
        cases v <;> simp [subL] <;> split <;> simp
      rw [this, ih j]
      simp

theorem subL_length {k : Nat} {r : AV} : ∀ {l : List AV}, (subL k r l).length = l.length
  | [] => rfl
  | v :: l => by
    have ih := subL_length (k := k) (r := r) (l := l)
    cases v <;> simp [subL] <;> first | exact ih | (split <;> simp [ih])

/-- How a situation turns where the row k stops being an object: 'r' stands for it from then on. -/
structure Gone (S S' : Sit) (k : Nat) (r : AV) : Prop extends Le S S' where
  keep : ∀ x o, S.O x = some o → x ≠ .loc k → ∃ o', S'.O x = some o' ∧ o'.ty = o.ty ∧ o'.sz = o.sz ∧ o'.box = o.box ∧ S'.β x = S.β x ∧ o'.es.length = o.es.length ∧
    ∀ cur : Array Value, S.w.heap[S.β x]? = some (.cells cur o.ty (0, 0)) → ∃ cur' : Array Value, S'.w.heap[S.β x]? = some (.cells cur' o.ty (0, 0)) ∧ cur'.size = cur.size
  row : ∀ u, Rep S (.osl (.loc k)) u → Rep S' r u
  hid : ∀ x sz, S.hid x = some sz → S'.hid x = some sz ∧ S'.β x = S.β x
  rd : r.d1 = true

theorem rep_one {S : Sit} {x : ID} {i off : Nat} {u : Value} (h : Rep S (.optr x i off) u) : u.oneCell' = true := by
  cases h with
  | clo h => cases h
  | optr => rfl
  | hidp => rfl

theorem occC_false {k : Nat} : ∀ {l : List AV}, occC k l = false → ∀ (j : Nat) (x : ID) (i off : Nat), l[j]? = some (.optr x i off) → x ≠ .loc k
  | [], _, j, x, i, off, h => by simp at h
  | v :: l, h, j, x, i, off, hj => by
    have hl : occC k l = false := by
      unfold occC at h
      split at h
      · split at h
        · cases h
        · exact h
      · exact h
    cases j with
    | zero =>
      simp at hj
      subst hj
      unfold occC at h
      simp only at h
      split at h
      · cases h
      · rename_i hx
        exact isLoc_false hx
    | succ j => exact occC_false hl j x i off (by simpa using hj)

theorem c0_gone {S S' : Sit} {k : Nat} {r : AV} (hg : Gone S S' k r) {v : AV} {u : Value} (h : Rep S v u) (hc : v.c0 = true) (hne : ∀ x i off, v = .optr x i off → x ≠ .loc k) : Rep S' v u := by
  cases h with
  | any => cases hc
  | jnk => cases hc
  | clo h => exact .clo (h.le hg.toLe)
  | optr x i off o ho =>
    obtain ⟨o', h', _, hz, _, hb, _⟩ := hg.keep x o ho (hne x i off rfl)
    rw [← hb, ← hz]
    exact .optr x i off o' h'
  | hidp x i off sz h => rw [← (hg.hid x sz h).2]; exact .hidp x i off sz (hg.hid x sz h).1
  | osl => cases hc
  | fn => cases hc
  | agg => cases hc
  | tup => cases hc

theorem fn_gone {S S' : Sit} {k : Nat} {r : AV} (hg : Gone S S' k r) {f : Fn} {a b : List AV} {u : Value} (h : Rep S (.fn f a b) u) (ha : allc0 a = true) (hb : allc0 b = true) (ho : (occC k a || occC k b) = false) : Rep S' (.fn f a b) u := by
  simp only [Bool.or_eq_false_iff] at ho
  cases h with
  | clo h => exact .clo (h.le hg.toLe)
  | fn _ _ _ us1 us2 l1 l2 h1 h2 =>
    exact .fn f a b us1 us2 l1 l2 (fun j x hj => c0_gone hg (h1 j x hj) (allc0_at ha j x hj) fun y i off e => occC_false ho.1 j y i off (by rw [hj, e]))
      (fun j x hj => c0_gone hg (h2 j x hj) (allc0_at hb j x hj) fun y i off e => occC_false ho.2 j y i off (by rw [hj, e]))

theorem fn_one {S : Sit} {f : Fn} {a b : List AV} {u : Value} (h : Rep S (.fn f a b) u) : u.oneCell' = true := by
  cases h with
  | clo h => cases h; rfl
  | fn => rfl

/-- A cell's value. -/
theorem cell_gone {S S' : Sit} {k : Nat} {r : AV} (hg : Gone S S' k r) {v : AV} {u : Value} (h : Rep S v u) (hd : v.d1 = true) :
    Rep S' (subC k r v) u ∧ (subC k r v).d1 = true := by
  cases v with
  | fn f a b =>
    have hab : allc0 a = true ∧ allc0 b = true := by
      unfold AV.d1 at hd
      split at hd <;> first | cases hd | skip
      all_goals first | (rename_i heq; cases heq) | skip
      all_goals (split at hd <;> first | exact ⟨by assumption, hd⟩ | cases hd)
    simp only [subC]
    cases hoc : (occC k a || occC k b) with
    | true => exact ⟨.jnk _ (fn_one h), rfl⟩
    | false => exact ⟨fn_gone hg h hab.1 hab.2 hoc, hd⟩
  | osl x =>
    simp only [subC]
    cases hx : isLoc k x with
    | true =>
      have := isLoc_true hx
      subst this
      exact ⟨hg.row u h, hg.rd⟩
    | false =>
      refine ⟨?_, rfl⟩
      cases h with
      | clo h => cases h
      | osl _ o c cur ho hb hw hc hl hm' =>
        obtain ⟨o', h', ht, hz, hb', hbe, hl', hcur⟩ := hg.keep x o ho (isLoc_false hx)
        obtain ⟨cur', hw', hs'⟩ := hcur cur hw
        rw [← hbe, ← hl']
        exact .osl x o' c cur' h' (hb'.trans hb) (by rw [hbe, ht]; exact hw') (by rw [hs', hz]; exact hc) (by omega) hm'
  | optr x i off =>
    simp only [subC]
    cases hx : isLoc k x with
    | true => exact ⟨.jnk _ (rep_one h), rfl⟩
    | false => exact ⟨c0_gone hg h rfl fun y i' off' e => by cases e; exact isLoc_false hx, rfl⟩
  | any => cases hd
  | jnk =>
    refine ⟨?_, rfl⟩
    cases h with
    | jnk _ h => exact .jnk _ h
    | clo h => cases h
  | int k n => exact ⟨.clo ((cl_repc h rfl).le hg.toLe), rfl⟩
  | bool b => exact ⟨.clo ((cl_repc h rfl).le hg.toLe), rfl⟩
  | str s => exact ⟨.clo ((cl_repc h rfl).le hg.toLe), rfl⟩
  | nilp => exact ⟨.clo ((cl_repc h rfl).le hg.toLe), rfl⟩
  | cptr cs => exact ⟨.clo ((rep_cptr h).le hg.toLe), rfl⟩
  | imm a b c d => exact ⟨.clo ((cl_repc h rfl).le hg.toLe), rfl⟩
  | nilfn => exact ⟨.clo ((cl_repc h rfl).le hg.toLe), rfl⟩
  | iface t v => cases hd
  | nilif => exact ⟨.clo ((cl_repc h rfl).le hg.toLe), rfl⟩
  | agg cs => cases hd
  | tup cs => cases hd

/-- A value at hand. -/
theorem Rep.gone {S S' : Sit} {k : Nat} {r : AV} (hg : Gone S S' k r) {v : AV} {u : Value} (h : Rep S v u) : Rep S' (subV k r v) u := by
  cases v with
  | fn f a b =>
    simp only [subV]
    split
    · exact .any _
    · rename_i hc
      simp only [Bool.or_eq_false_iff, Bool.not_eq_false', Bool.and_eq_true] at hc
      exact fn_gone hg h hc.2.1 hc.2.2 (by simp [hc.1.1, hc.1.2])
  | agg cs =>
    simp only [subV]
    obtain ⟨us, rfl, hl, hs, hr⟩ := rep_agg h
    refine .agg _ us (by rw [subL_length]; exact hl) (fun j x hj => ?_) (fun j x hj => ?_)
    · rw [subL_get] at hj
      obtain ⟨v, hv, rfl⟩ := Option.map_eq_some_iff.1 hj
      exact (cell_gone hg (hr j v hv) (hs j v hv)).2
    · rw [subL_get] at hj
      obtain ⟨v, hv, rfl⟩ := Option.map_eq_some_iff.1 hj
      exact (cell_gone hg (hr j v hv) (hs j v hv)).1
  | tup cs => exact .any _
  | any => exact .any _
  | iface t v =>
    cases h with
    | clo h => exact .clo (h.le hg.toLe)
  | optr x i off =>
    have := cell_gone hg h rfl
    simp only [subV, subC] at this ⊢
    split
    · exact .any _
    · rename_i hx
      rw [hx] at this
      exact this.1
  | osl x => exact (cell_gone hg h rfl).1
  | jnk => exact (cell_gone hg h rfl).1
  | int k n => exact (cell_gone hg h rfl).1
  | bool b => exact (cell_gone hg h rfl).1
  | str s => exact (cell_gone hg h rfl).1
  | nilp => exact (cell_gone hg h rfl).1
  | cptr cs => exact (cell_gone hg h rfl).1
  | imm a b c d => exact (cell_gone hg h rfl).1
  | nilfn => exact (cell_gone hg h rfl).1
  | nilif => exact (cell_gone hg h rfl).1

end Go.Am
