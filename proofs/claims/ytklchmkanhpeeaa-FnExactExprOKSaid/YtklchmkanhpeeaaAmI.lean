/- The abstract memory logic, ninth part: the operations that make or write memory. -/
import Derived.Test.YtklchmkanhpeeaaAmH
namespace Go.Am
open Go

theorem d1_one {S : Sit} {v : AV} {u : Value} (h : Rep S v u) (hd : v.d1 = true) : u.oneCell' = true := by
  cases h with
  | any => cases hd
  | jnk _ h => exact h
  | clo h => cases h <;> first | rfl | cases hd
  | optr => rfl
  | hidp => rfl
  | osl => rfl
  | fn => rfl
  | agg => cases hd
  | tup => cases hd

/-- What lies in a row behind a store of some cells. -/
theorem put_cells (cur : Array Value) (p : Nat) (vs : List Value) (hl : p + vs.length ≤ cur.size) :
    ((cur.toList.take p ++ vs ++ cur.toList.drop (p + vs.length)).toArray).size = cur.size ∧
    ∀ j : Nat, ((cur.toList.take p ++ vs ++ cur.toList.drop (p + vs.length)).toArray)[j]? = if p ≤ j ∧ j < p + vs.length then vs[j - p]? else cur[j]? := by
  refine ⟨by simp; omega, fun j => ?_⟩
  simp only [List.getElem?_toArray, List.getElem?_append, List.length_append, List.length_take, Array.length_toList, List.getElem?_take, List.getElem?_drop, Array.getElem?_toList]
  have hm : min p cur.size = p := by omega
  rw [hm]
  by_cases h1 : j < p
  · simp only [if_pos h1, if_pos (show j < p + vs.length by omega), if_neg (show ¬ (p ≤ j ∧ j < p + vs.length) by omega)]
  · by_cases h2 : j < p + vs.length
    · simp only [if_neg h1, if_pos h2, if_pos (show p ≤ j ∧ j < p + vs.length by omega)]
    · simp only [if_neg h2, if_neg (show ¬ (p ≤ j ∧ j < p + vs.length) by omega)]
      rw [show p + vs.length + (j - (p + vs.length)) = j by omega]

/-- The cells of an object with one element turned. -/
def setE (i : Nat) (off : Nat) (cs : List AV) (es : List (List AV)) : Option (List (List AV)) :=
  match i, es with
  | 0, [e] => match setF off cs e with
    | some e' => some [e']
    | none => none
  | i, es => match es[i]? with
    | some e => match setF off cs e with
      | some e' => some (es.set i e')
      | none => none
    | none => none

theorem setE_spec {i off : Nat} {cs : List AV} {es es' : List (List AV)} (h : setE i off cs es = some es') : ∃ e e', es[i]? = some e ∧ setF off cs e = some e' ∧ es' = es.set i e' := by
  unfold setE at h
  split at h
  · rename_i e
    split at h
    · rename_i e' he
      cases h
      exact ⟨e, e', rfl, he, rfl⟩
    · cases h
  · split at h
    · rename_i e he
      split at h
      · rename_i e' he'
        cases h
        exact ⟨e, e', he, he', rfl⟩
      · cases h
    · cases h

theorem store_rep {S : Sit} {o : Obj} {cur : Array Value} {i off : Nat} {cs : List AV} {vs : List Value} {es' : List (List AV)} (hset : setE i off cs o.es = some es')
    (hall : ∀ e ∈ o.es, e.length = o.sz) (hsz : o.es.length * o.sz ≤ cur.size)
    (hold : ∀ (i : Nat) (e : List AV) (j : Nat) (v : AV), o.es[i]? = some e → e[j]? = some v → v.d1 = true ∧ ∃ u, cur[i * o.sz + j]? = some u ∧ Rep S v u ∧ (o.box = false → RepC S v u))
    (hvl : vs.length = cs.length) (hvs : ∀ (j : Nat) (v : AV), cs[j]? = some v → v.d1 = true ∧ ∃ u, vs[j]? = some u ∧ Rep S v u ∧ (o.box = false → RepC S v u)) :
    es'.length = o.es.length ∧ (∀ e ∈ es', e.length = o.sz) ∧ i * o.sz + off + vs.length ≤ cur.size ∧
    ∀ (k : Nat) (e : List AV) (j : Nat) (v : AV), es'[k]? = some e → e[j]? = some v →
      v.d1 = true ∧ ∃ u, ((cur.toList.take (i * o.sz + off) ++ vs ++ cur.toList.drop (i * o.sz + off + vs.length)).toArray)[k * o.sz + j]? = some u ∧ Rep S v u ∧ (o.box = false → RepC S v u) := by
  obtain ⟨e0, e1, he0, hf, rfl⟩ := setE_spec hset
  obtain ⟨f1, f2, f3⟩ := setF_spec hf
  have hi : i < o.es.length := (List.getElem?_eq_some_iff.1 he0).1
  have hl0 : e0.length = o.sz := hall e0 (List.mem_of_getElem? he0)
  have hmul : (i + 1) * o.sz ≤ o.es.length * o.sz := Nat.mul_le_mul_right _ hi
  rw [Nat.add_mul, Nat.one_mul] at hmul
  have hfit : i * o.sz + off + vs.length ≤ cur.size := by rw [hvl]; omega
  obtain ⟨_, hput⟩ := put_cells cur (i * o.sz + off) vs hfit
  refine ⟨by simp, fun e he => ?_, hfit, fun k e j v hk hj => ?_⟩
  · rcases List.mem_or_eq_of_mem_set he with h | rfl
    · exact hall e h
    · rw [f1]; exact hl0
  · rw [hput]
    by_cases hki : k = i
    · subst hki
      rw [List.getElem?_set_self hi] at hk
      cases hk
      have hjl : j < o.sz := by rw [← hl0, ← f1]; exact (List.getElem?_eq_some_iff.1 hj).1
      rw [f3 j] at hj
      by_cases hr : off ≤ j ∧ j < off + cs.length
      · rw [if_pos hr] at hj
        obtain ⟨q1, u, q2, q3⟩ := hvs (j - off) v hj
        rw [if_pos (by omega), show k * o.sz + j - (k * o.sz + off) = j - off by omega]
        exact ⟨q1, u, q2, q3⟩
      · rw [if_neg hr] at hj
        rw [if_neg (by omega)]
        exact hold k e0 j v he0 hj
    · rw [List.getElem?_set_ne (Ne.symm hki)] at hk
      have hjl : j < o.sz := by rw [← hall e (List.mem_of_getElem? hk)]; exact (List.getElem?_eq_some_iff.1 hj).1
      have hne : ¬ (i * o.sz + off ≤ k * o.sz + j ∧ k * o.sz + j < i * o.sz + off + vs.length) := by
        rintro ⟨h1, h2⟩
        rcases Nat.lt_or_gt_of_ne hki with hlt | hgt
        · have := Nat.mul_le_mul_right o.sz (show k + 1 ≤ i from hlt)
          rw [Nat.add_mul, Nat.one_mul] at this
          omega
        · have := Nat.mul_le_mul_right o.sz (show i + 1 ≤ k from hgt)
          rw [Nat.add_mul, Nat.one_mul] at this
          rw [hvl] at h2
          omega
      rw [if_neg hne]
      exact hold k e j v hk hj

/-- A store. -/
def astore (σ : St) (p : AV) (cs : List AV) : Option St := match σ with
  | ⟨env, l, b, O, tk⟩ => match p with
    | .optr (.loc k) i off => match look k l with
      | some o => match setE i off cs o.es with
        | some es => match o.box || cs.all cl with
          | true => some ⟨env, setl k { o with es := es } l, b, O, tk⟩
          | false => none
        | none => none
      | none => none
    | .optr (.bor k) i off => match b[k]? with
      | some o => match setE i off cs o.es with
        | some es => match o.box && cs.all cl with
          | true => some ⟨env, l, b.set k { o with es := es }, O, tk⟩
          | false => none
        | none => none
      | none => none
    | _ => none

theorem setF_up {n : Nat} {cs : List AV} (hc : cs.all cl = true) : ∀ {l r : List AV}, setF n cs l = some r → ∀ {l' : List AV}, l' = l.map AV.up → ∀ j : Nat, (r.map AV.up)[j]? = if n ≤ j ∧ j < n + cs.length then cs[j - n]? else l'[j]? := by
  intro l r h l' hl j
  subst hl
  obtain ⟨_, _, h3⟩ := setF_spec h
  rw [List.getElem?_map, h3 j]
  split
  · rename_i hj
    cases hcj : cs[j - n]? with
    | none => rfl
    | some x => simp only [Option.map_some]; rw [cl_up (List.all_eq_true.1 hc x (List.mem_of_getElem? hcj))]
  · rw [List.getElem?_map]

theorem storeVar_run {P : Program} {T : TypeId} {i : TI} (hT : TOK P T i) (w : World) (g p : Nat) (t : TypeId) (cur : Array Value) (hg : w.heap[g]? = some (.cells cur t (0, 0))) (v : Value) (hs : v.cells.size = i.size)
    (hfit : p + v.cells.toList.length ≤ cur.size) (h1 : ∀ u ∈ v.cells.toList, u.oneCell' = true) :
    (storeVar T ⟨g, p, none⟩ v).run P w = .ok () (w.setRow g (cur.toList.take p ++ v.cells.toList ++ cur.toList.drop (p + v.cells.toList.length)).toArray) := by
  have := run_storeCells_at (P := P) g p t v.cells.toList 0 cur w hg (by simpa using hfit) h1
  simp only [Nat.add_zero] at this
  simp [storeVar, sizeOf_run hT, hs, this]

def stW : AV → List ID
  | .optr x _ _ => [x]
  | _ => []

theorem store_step {C : Ctx} {Γ : TTab} (hG : GOK C.P Γ) {σ σ' : St} {o : Oper} {T : TypeId} {x y : Operand} (ho : o.op = .store T x y) {p v : AV} (hx : oev σ.env x = some p) (hy : oev σ.env y = some v)
    {i : TI} (hT : look T Γ = some i) {cs : List AV} (hcs : cellsOf v = some cs) (hlen : cs.length = i.size) (hd : alld1 cs = true) (h : astore σ p cs = some σ') : Step C (stW p) o σ .any σ' := by
  intro a w S hat
  have hK := hG T i hT
  have rv := oev_rep hat hy
  have rp := oev_rep hat hx
  obtain ⟨hvl, hvr⟩ := cellsOf_rep rv hcs
  generalize hv : a.eval y = u at rv hvl hvr
  have hd' := alld1_at hd
  have hone : ∀ z ∈ u.cells.toList, z.oneCell' = true := by
    intro z hz
    obtain ⟨j, hj⟩ := List.mem_iff_getElem?.1 hz
    have hjl : j < cs.length := by rw [← hvl]; simpa using (List.getElem?_eq_some_iff.1 hj).1
    have hzz : u.cells.getD j undef = z := by simp at hj; simp [hj]
    have := hvr j cs[j] (List.getElem?_eq_getElem hjl)
    rw [hzz] at this
    exact d1_one this (hd' j _ (List.getElem?_eq_getElem hjl))
  have hvs : ∀ (b : Bool), (b = false → cs.all cl = true) → ∀ (j : Nat) (v : AV), cs[j]? = some v → v.d1 = true ∧ ∃ u', u.cells.toList[j]? = some u' ∧ Rep S v u' ∧ (b = false → RepC S v u') := by
    intro b hb j z hz
    have hjl := (List.getElem?_eq_some_iff.1 hz).1
    have hr := hvr j z hz
    refine ⟨hd' j z hz, u.cells.getD j undef, ?_, hr, fun hf => cl_repc hr (List.all_eq_true.1 (hb hf) z (List.mem_of_getElem? hz))⟩
    rw [Array.getElem?_toList]
    rw [← hvl] at hjl
    simp [Array.getD, hjl]
  have hrun : ∀ (g q : Nat) (t : TypeId) (cur : Array Value), w.heap[g]? = some (.cells cur t (0, 0)) → q + u.cells.toList.length ≤ cur.size → a.eval x = .pointer (some ⟨g, q, none⟩) →
      (execOp a.eval o).run C.P w = .ok .skip (w.setRow g (cur.toList.take q ++ u.cells.toList ++ cur.toList.drop (q + u.cells.toList.length)).toArray) := by
    intro g q t cur hg hfit hpx
    unfold execOp
    simp only [ho, hv, hpx, Instr.storeAt, Instr.sureAddr, Sem.run_bind, Sem.run_pure, Result.andThen_ok, storeVar_run hK w g q t cur hg u (hvl.trans hlen) hfit hone]
  unfold astore at h
  simp only at h
  split at h
  · rename_i k n off
    split at h
    · rename_i ob hob
      split at h
      · rename_i es hes
        split at h
        · rename_i hbx
          cases h
          have hSo : S.O (.loc k) = some ob := by rw [hat.O]; exact hob
          have hu2 := rep_optr hat.sim hSo rp
          obtain ⟨cur, q1, q2, q3, q4, q5⟩ := hat.sim.obj _ _ hSo
          have hbx' : ob.box = false → cs.all cl = true := fun hf => by rw [hf] at hbx; simpa using hbx
          obtain ⟨r1, r2, r3, r4⟩ := store_rep hes q4 q2 q5 (by simpa using hvl) (hvs ob.box hbx')
          obtain ⟨p1, _⟩ := put_cells cur (n * ob.sz + off) u.cells.toList r3
          rw [hat.w] at q1
          obtain ⟨S', hat', hmov⟩ := hat.setLoc hob { ob with es := es } rfl rfl rfl r1 cur _ q1 p1 r2 r4
          exact ⟨undef, _, S', .inr ⟨hrun _ _ _ cur q1 r3 hu2, rfl⟩, hat', .any _, keep_row hmov (by rw [hat'.w, hat.w])⟩
        · cases h
      · cases h
    · cases h
  · rename_i k n off
    split at h
    · rename_i ob hob
      split at h
      · rename_i es hes
        split at h
        · rename_i hbx
          cases h
          simp only [Bool.and_eq_true] at hbx
          have hSo : S.O (.bor k) = some ob.up := by rw [hat.O]; show (σ.b[k]?).map Obj.up = _; rw [hob]; rfl
          have hu2 := rep_optr hat.sim hSo rp
          obtain ⟨cur, q1, q2, q3, q4, q5⟩ := hat.sim.obj _ _ hSo
          -- the object by the call's names, with the same cells turned
          have hupE : setE n off cs ob.up.es = some (es.map (·.map AV.up)) := by
            obtain ⟨e0, e1, he0, hf, rfl⟩ := setE_spec hes
            have hone1 : ob.es.length = 1 := by have := (q3 hbx.1).1; simpa [Obj.up] using this
            have hn0 : n = 0 := by have := (List.getElem?_eq_some_iff.1 he0).1; omega
            subst hn0
            match hm : ob.es, hone1 with
            | [e], _ =>
              rw [hm] at he0
              simp at he0
              subst he0
              have hup : ob.up.es = [e.map AV.up] := by simp [Obj.up, hm]
              rw [hup]
              unfold setE
              simp only
              have key : ∀ (m : Nat) (l r : List AV), setF m cs l = some r → setF m cs (l.map AV.up) = some (r.map AV.up) := by
                clear hes hf hup hm hone1
                have hcl := hbx.2
                clear hbx
                revert hcl
                clear hvs hcs hvl hvr hd' hlen hd hone hrun
                induction cs with
                | nil =>
                  intro _ m
                  induction m with
                  | zero => intro l r h; simp [setF] at h; subst h; simp [setF]
                  | succ m ih =>
                    intro l r h
                    cases l with
                    | nil => simp [setF] at h
                    | cons z l =>
                      unfold setF at h
                      split at h
                      · rename_i r' hr'
                        cases h
                        simp [setF, ih l r' hr']
                      · cases h
                | cons c cs ihc =>
                  intro hcl m
                  simp only [List.all_cons, Bool.and_eq_true] at hcl
                  induction m with
                  | zero =>
                    intro l r h
                    cases l with
                    | nil => simp [setF] at h
                    | cons z l =>
                      unfold setF at h
                      split at h
                      · rename_i z' hz'
                        split at h
                        · rename_i r' hr'
                          cases h
                          have := ihc hcl.2 0 l r' hr'
                          have hz'' := force_eq hz'
                          subst hz''
                          simp [setF, hz', this, cl_up hcl.1]
                        · cases h
                      · cases h
                  | succ m ih =>
                    intro l r h
                    cases l with
                    | nil => simp [setF] at h
                    | cons z l =>
                      unfold setF at h
                      split at h
                      · rename_i r' hr'
                        cases h
                        simp [setF, ih l r' hr']
                      · cases h
              rw [key off e e1 hf]
              simp
          obtain ⟨r1, r2, r3, r4⟩ := store_rep hupE q4 q2 q5 (by simpa using hvl) (hvs ob.up.box (fun _ => hbx.2))
          obtain ⟨p1, _⟩ := put_cells cur (n * ob.up.sz + off) u.cells.toList r3
          rw [hat.w] at q1
          obtain ⟨S', hat', hmov⟩ := hat.setBor hob { ob with es := es } rfl rfl rfl hbx.1 (by simpa [Obj.up] using r1) cur _ q1 p1 r2 (fun i e j v hi hj => let ⟨z1, z, z2, z3, _⟩ := r4 i e j v hi hj; ⟨z1, z, z2, z3⟩)
          exact ⟨undef, _, S', .inr ⟨hrun _ _ _ cur q1 r3 hu2, rfl⟩, hat', .any _, keep_row hmov (by rw [hat'.w, hat.w])⟩
        · cases h
      · cases h
    · cases h
  · cases h

end Go.Am
