/- The abstract memory logic and its tools: several texts in one. -/
import Derived.Great.BuildSlice
import Derived.Test.YtoajlhhalpldfaaGreatDoorAm1

/- The abstract memory logic, ninth part: the operations that make or write memory. -/
namespace Go.Am
open Go

theorem d1_one {S : Sit} {v : AV} {u : Value} (h : Rep S v u) (hd : v.d1 = true) : u.oneCell' = true := by
 cases h with
 | any => cases hd
 | jnk _ h => exact h
 | clo h => cases h <;> first | rfl | cases hd
 | optr => rfl
 | hidp => rfl
 | osl => rfl
 | fn => rfl
 | agg => cases hd
 | tup => cases hd

theorem put_cells (cur : Array Value) (p : Nat) (vs : List Value) (hl : p + vs.length ≤ cur.size) :
  ((cur.toList.take p ++ vs ++ cur.toList.drop (p + vs.length)).toArray).size = cur.size ∧
  ∀ j : Nat, ((cur.toList.take p ++ vs ++ cur.toList.drop (p + vs.length)).toArray)[j]? = if p ≤ j ∧ j < p + vs.length then vs[j - p]? else cur[j]? := by
 refine ⟨by simp; omega, fun j => ?_⟩
 simp only [List.getElem?_toArray, List.getElem?_append, List.length_append, List.length_take, Array.length_toList, List.getElem?_take, List.getElem?_drop, Array.getElem?_toList]
 have hm : min p cur.size = p := by omega
 rw [hm]
 by_cases h1 : j < p
 ·simp only [if_pos h1, if_pos (show j < p + vs.length by omega), if_neg (show ¬ (p ≤ j ∧ j < p + vs.length) by omega)]
 by_cases h2 : j < p + vs.length
 ·simp only [if_neg h1, if_pos h2, if_pos (show p ≤ j ∧ j < p + vs.length by omega)]
 simp only [if_neg h2, if_neg (show ¬ (p ≤ j ∧ j < p + vs.length) by omega)]
 rw [show p + vs.length + (j - (p + vs.length)) = j by omega]

def setE (i : Nat) (off : Nat) (cs : List AV) (es : List (List AV)) : Option (List (List AV)) :=
 match i, es with
 | 0, [e] => match setF off cs e with
  | some e' => some [e']
  | none => none
 | i, es => match es[i]? with
  | some e => match setF off cs e with
   | some e' => some (es.set i e')
   | none => none
  | none => none

theorem setE_spec {i off : Nat} {cs : List AV} {es es' : List (List AV)} (h : setE i off cs es = some es') : ∃ e e', es[i]? = some e ∧ setF off cs e = some e' ∧ es' = es.set i e' := by
 unfold setE at h
 split at h
 ·rename_i e
  split at h
  ·rename_i e' he
   cases h
   exact ⟨e, e', rfl, he, rfl⟩
  cases h
 split at h
 ·rename_i e he
  split at h
  ·rename_i e' he'
   cases h
   exact ⟨e, e', he, he', rfl⟩
  cases h
 cases h

theorem store_rep {S : Sit} {o : Obj} {cur : Array Value} {i off : Nat} {cs : List AV} {vs : List Value} {es' : List (List AV)} (hset : setE i off cs o.es = some es')
  (hall : ∀ e ∈ o.es, e.length = o.sz) (hsz : o.es.length * o.sz ≤ cur.size)
  (hold : ∀ (i : Nat) (e : List AV) (j : Nat) (v : AV), o.es[i]? = some e → e[j]? = some v → v.d1 = true ∧ ∃ u, cur[i * o.sz + j]? = some u ∧ Rep S v u ∧ (o.box = false → RepC S v u))
  (hvl : vs.length = cs.length) (hvs : ∀ (j : Nat) (v : AV), cs[j]? = some v → v.d1 = true ∧ ∃ u, vs[j]? = some u ∧ Rep S v u ∧ (o.box = false → RepC S v u)) :
  es'.length = o.es.length ∧ (∀ e ∈ es', e.length = o.sz) ∧ i * o.sz + off + vs.length ≤ cur.size ∧
  ∀ (k : Nat) (e : List AV) (j : Nat) (v : AV), es'[k]? = some e → e[j]? = some v →
   v.d1 = true ∧ ∃ u, ((cur.toList.take (i * o.sz + off) ++ vs ++ cur.toList.drop (i * o.sz + off + vs.length)).toArray)[k * o.sz + j]? = some u ∧ Rep S v u ∧ (o.box = false → RepC S v u) := by
 obtain ⟨e0, e1, he0, hf, rfl⟩ := setE_spec hset
 obtain ⟨f1, f2, f3⟩ := setF_spec hf
 have hi : i < o.es.length := (List.getElem?_eq_some_iff.1 he0).1
 have hl0 : e0.length = o.sz := hall e0 (List.mem_of_getElem? he0)
 have hmul : (i + 1) * o.sz ≤ o.es.length * o.sz := Nat.mul_le_mul_right _ hi
 rw [Nat.add_mul, Nat.one_mul] at hmul
 have hfit : i * o.sz + off + vs.length ≤ cur.size := by rw [hvl]; omega
 obtain ⟨_, hput⟩ := put_cells cur (i * o.sz + off) vs hfit
 refine ⟨by simp, fun e he => ?_, hfit, fun k e j v hk hj => ?_⟩
 ·rcases List.mem_or_eq_of_mem_set he with h | rfl
  ·exact hall e h
  rw [f1]; exact hl0
 rw [hput]
 by_cases hki : k = i
 ·subst hki
  rw [List.getElem?_set_self hi] at hk
  cases hk
  have hjl : j < o.sz := by rw [← hl0, ← f1]; exact (List.getElem?_eq_some_iff.1 hj).1
  rw [f3 j] at hj
  by_cases hr : off ≤ j ∧ j < off + cs.length
  ·rw [if_pos hr] at hj
   obtain ⟨q1, u, q2, q3⟩ := hvs (j - off) v hj
   rw [if_pos (by omega), show k * o.sz + j - (k * o.sz + off) = j - off by omega]
   exact ⟨q1, u, q2, q3⟩
  rw [if_neg hr] at hj
  rw [if_neg (by omega)]
  exact hold k e0 j v he0 hj
 rw [List.getElem?_set_ne (Ne.symm hki)] at hk
 have hjl : j < o.sz := by rw [← hall e (List.mem_of_getElem? hk)]; exact (List.getElem?_eq_some_iff.1 hj).1
 have hne : ¬ (i * o.sz + off ≤ k * o.sz + j ∧ k * o.sz + j < i * o.sz + off + vs.length) := by
  rintro ⟨h1, h2⟩
  rcases Nat.lt_or_gt_of_ne hki with hlt | hgt
  ·have := Nat.mul_le_mul_right o.sz (show k + 1 ≤ i from hlt)
   rw [Nat.add_mul, Nat.one_mul] at this
   omega
  have := Nat.mul_le_mul_right o.sz (show i + 1 ≤ k from hgt)
  rw [Nat.add_mul, Nat.one_mul] at this
  rw [hvl] at h2
  omega
 rw [if_neg hne]
 exact hold k e j v hk hj

def astore (σ : St) (p : AV) (cs : List AV) : Option St := match σ with
 | ⟨env, l, b, O, tk⟩ => match p with
  | .optr (.loc k) i off => match look k l with
   | some o => match setE i off cs o.es with
    | some es => match o.box || cs.all cl with
     | true => some ⟨env, setl k { o with es := es } l, b, O, tk⟩
     | false => none
    | none => none
   | none => none
  | .optr (.bor k) i off => match b[k]? with
   | some o => match setE i off cs o.es with
    | some es => match o.box && cs.all cl with
     | true => some ⟨env, l, b.set k { o with es := es }, O, tk⟩
     | false => none
    | none => none
   | none => none
  | _ => none

theorem storeVar_run {P : Program} {T : TypeId} {i : TI} (hT : TOK P T i) (w : World) (g p : Nat) (t : TypeId) (cur : Array Value) (hg : w.heap[g]? = some (.cells cur t (0, 0))) (v : Value) (hs : v.cells.size = i.size)
  (hfit : p + v.cells.toList.length ≤ cur.size) (h1 : ∀ u ∈ v.cells.toList, u.oneCell' = true) :
  (storeVar T ⟨g, p, none⟩ v).run P w = .ok () (w.setRow g (cur.toList.take p ++ v.cells.toList ++ cur.toList.drop (p + v.cells.toList.length)).toArray) := by
 have := run_storeCells_at (P := P) g p t v.cells.toList 0 cur w hg (by simpa using hfit) h1
 simp only [Nat.add_zero] at this
 simp [storeVar, sizeOf_run hT, hs, this]

def stW : AV → List ID
 | .optr x _ _ => [x]
 | _ => []

theorem store_step {C : Ctx} {Γ : TTab} (hG : GOK C.P Γ) {σ σ' : St} {o : Oper} {T : TypeId} {x y : Operand} (ho : o.op = .store T x y) {p v : AV} (hx : oev σ.env x = some p) (hy : oev σ.env y = some v)
  {i : TI} (hT : look T Γ = some i) {cs : List AV} (hcs : cellsOf v = some cs) (hlen : cs.length = i.size) (hd : alld1 cs = true) (h : astore σ p cs = some σ') : Step C (stW p) o σ .any σ' := by
 intro a w S hat
 have hK := hG T i hT
 have rv := oev_rep hat hy
 have rp := oev_rep hat hx
 obtain ⟨hvl, hvr⟩ := cellsOf_rep rv hcs
 generalize hv : a.eval y = u at rv hvl hvr
 have hd' := alld1_at hd
 have hone : ∀ z ∈ u.cells.toList, z.oneCell' = true := by
  intro z hz
  obtain ⟨j, hj⟩ := List.mem_iff_getElem?.1 hz
  have hjl : j < cs.length := by rw [← hvl]; simpa using (List.getElem?_eq_some_iff.1 hj).1
  have hzz : u.cells.getD j undef = z := by simp at hj; simp [hj]
  have := hvr j cs[j] (List.getElem?_eq_getElem hjl)
  rw [hzz] at this
  exact d1_one this (hd' j _ (List.getElem?_eq_getElem hjl))
 have hvs : ∀ (b : Bool), (b = false → cs.all cl = true) → ∀ (j : Nat) (v : AV), cs[j]? = some v → v.d1 = true ∧ ∃ u', u.cells.toList[j]? = some u' ∧ Rep S v u' ∧ (b = false → RepC S v u') := by
  intro b hb j z hz
  have hjl := (List.getElem?_eq_some_iff.1 hz).1
  have hr := hvr j z hz
  refine ⟨hd' j z hz, u.cells.getD j undef, ?_, hr, fun hf => cl_repc hr (List.all_eq_true.1 (hb hf) z (List.mem_of_getElem? hz))⟩
  rw [Array.getElem?_toList]
  rw [← hvl] at hjl
  simp [Array.getD, hjl]
 have hrun : ∀ (g q : Nat) (t : TypeId) (cur : Array Value), w.heap[g]? = some (.cells cur t (0, 0)) → q + u.cells.toList.length ≤ cur.size → a.eval x = .pointer (some ⟨g, q, none⟩) →
   (execOp a.eval o).run C.P w = .ok .skip (w.setRow g (cur.toList.take q ++ u.cells.toList ++ cur.toList.drop (q + u.cells.toList.length)).toArray) := by
  intro g q t cur hg hfit hpx
  unfold execOp
  simp only [ho, hv, hpx, Instr.storeAt, Instr.sureAddr, Sem.run_bind, Sem.run_pure, Result.andThen_ok, storeVar_run hK w g q t cur hg u (hvl.trans hlen) hfit hone]
 unfold astore at h
 simp only at h
 split at h
 ·rename_i k n off
  split at h
  ·rename_i ob hob
   split at h
   ·rename_i es hes
    split at h
    ·rename_i hbx
     cases h
     have hSo : S.O (.loc k) = some ob := by rw [hat.O]; exact hob
     have hu2 := rep_optr hat.sim hSo rp
     obtain ⟨cur, q1, q2, q3, q4, q5⟩ := hat.sim.obj _ _ hSo
     have hbx' : ob.box = false → cs.all cl = true := fun hf => by rw [hf] at hbx; simpa using hbx
     obtain ⟨r1, r2, r3, r4⟩ := store_rep hes q4 q2 q5 (by simpa using hvl) (hvs ob.box hbx')
     obtain ⟨p1, _⟩ := put_cells cur (n * ob.sz + off) u.cells.toList r3
     rw [hat.w] at q1
     obtain ⟨S', hat', hmov⟩ := hat.setLoc hob { ob with es := es } rfl rfl rfl r1 cur _ q1 p1 r2 r4
     exact ⟨undef, _, S', .inr ⟨hrun _ _ _ cur q1 r3 hu2, rfl⟩, hat', .any _, keep_row hmov (by rw [hat'.w, hat.w])⟩
    cases h
   cases h
  cases h
 ·rename_i k n off
  split at h
  ·rename_i ob hob
   split at h
   ·rename_i es hes
    split at h
    ·rename_i hbx
     cases h
     simp only [Bool.and_eq_true] at hbx
     have hSo : S.O (.bor k) = some ob.up := by rw [hat.O]; show (σ.b[k]?).map Obj.up = _; rw [hob]; rfl
     have hu2 := rep_optr hat.sim hSo rp
     obtain ⟨cur, q1, q2, q3, q4, q5⟩ := hat.sim.obj _ _ hSo
     -- the object by the call's names, with the same cells turned
     have hupE : setE n off cs ob.up.es = some (es.map (·.map AV.up)) := by
      obtain ⟨e0, e1, he0, hf, rfl⟩ := setE_spec hes
      have hone1 : ob.es.length = 1 := by have := (q3 hbx.1).1; simpa [Obj.up] using this
      have hn0 : n = 0 := by have := (List.getElem?_eq_some_iff.1 he0).1; omega
      subst hn0
      match hm : ob.es, hone1 with
      | [e], _ =>
       rw [hm] at he0
       simp at he0
       subst he0
       have hup : ob.up.es = [e.map AV.up] := by simp [Obj.up, hm]
       rw [hup]
       unfold setE
       simp only
       have key : ∀ (m : Nat) (l r : List AV), setF m cs l = some r → setF m cs (l.map AV.up) = some (r.map AV.up) := by
        clear hes hf hup hm hone1
        have hcl := hbx.2
        clear hbx
        revert hcl
        clear hvs hcs hvl hvr hd' hlen hd hone hrun
        induction cs with
        | nil =>
         intro _ m
         induction m with
         | zero => intro l r h; simp [setF] at h; subst h; simp [setF]
         | succ m ih =>
          intro l r h
          cases l with
          | nil => simp [setF] at h
          | cons z l =>
           unfold setF at h
           split at h
           ·rename_i r' hr'
            cases h
            simp [setF, ih l r' hr']
           cases h
        | cons c cs ihc =>
         intro hcl m
         simp only [List.all_cons, Bool.and_eq_true] at hcl
         induction m with
         | zero =>
          intro l r h
          cases l with
          | nil => simp [setF] at h
          | cons z l =>
           unfold setF at h
           split at h
           ·rename_i z' hz'
            split at h
            ·rename_i r' hr'
             cases h
             have := ihc hcl.2 0 l r' hr'
             have hz'' := force_eq hz'
             subst hz''
             simp [setF, hz', this, cl_up hcl.1]
            cases h
           cases h
         | succ m ih =>
          intro l r h
          cases l with
          | nil => simp [setF] at h
          | cons z l =>
           unfold setF at h
           split at h
           ·rename_i r' hr'
            cases h
            simp [setF, ih l r' hr']
           cases h
       rw [key off e e1 hf]
       simp
     obtain ⟨r1, r2, r3, r4⟩ := store_rep hupE q4 q2 q5 (by simpa using hvl) (hvs ob.up.box (fun _ => hbx.2))
     obtain ⟨p1, _⟩ := put_cells cur (n * ob.up.sz + off) u.cells.toList r3
     rw [hat.w] at q1
     obtain ⟨S', hat', hmov⟩ := hat.setBor hob { ob with es := es } rfl rfl rfl hbx.1 (by simpa [Obj.up] using r1) cur _ q1 p1 r2 (fun i e j v hi hj => let ⟨z1, z, z2, z3, _⟩ := r4 i e j v hi hj; ⟨z1, z, z2, z3⟩)
     exact ⟨undef, _, S', .inr ⟨hrun _ _ _ cur q1 r3 hu2, rfl⟩, hat', .any _, keep_row hmov (by rw [hat'.w, hat.w])⟩
    cases h
   cases h
  cases h
 cases h

end Go.Am

/- The abstract memory logic, tenth part: structs and slices built, boxes made. -/
namespace Go.Am
open Go

theorem fold_set (off : Nat) : ∀ (vs : List Value) (n : Nat) (cs : Array Value), off + n + vs.length ≤ cs.size →
  ((vs.zipIdx n).foldl (fun cs (x : Value × Nat) => cs.setIfInBounds (off + x.2) x.1) cs).size = cs.size ∧
  ∀ k : Nat, ((vs.zipIdx n).foldl (fun cs (x : Value × Nat) => cs.setIfInBounds (off + x.2) x.1) cs)[k]? = if off + n ≤ k ∧ k < off + n + vs.length then vs[k - (off + n)]? else cs[k]?
 | [], n, cs, h => by
  refine ⟨rfl, fun k => ?_⟩
  rw [if_neg (by simp only [List.length_nil]; omega)]
  rfl
 | v :: vs, n, cs, h => by
  simp only [List.length_cons] at h
  obtain ⟨h1, h2⟩ := fold_set off vs (n + 1) (cs.setIfInBounds (off + n) v) (by simp; omega)
  simp only [List.zipIdx_cons, List.foldl_cons, Array.size_setIfInBounds] at h1 h2 ⊢
  refine ⟨h1, fun k => ?_⟩
  rw [h2 k]
  simp only [List.length_cons]
  by_cases hk : k = off + n
  ·subst hk
   rw [if_neg (by omega), if_pos (by omega)]
   simp [show off + n < cs.size by omega]
  by_cases hr : off + (n + 1) ≤ k ∧ k < off + (n + 1) + vs.length
  ·rw [if_pos hr, if_pos (by omega), show k - (off + n) = (k - (off + (n + 1))) + 1 by omega]
   rfl
  rw [if_neg hr, if_neg (by omega)]
  simp [Ne.symm hk]

theorem fill_cons {place : Nat → Option (Nat × Nat)} {cells : Array Value} {i : Nat} {v : Value} {rest : List (Nat × Value)} {off : Nat} (hp : place i = some (off, v.cells.size)) (hfit : off + v.cells.size ≤ cells.size) :
  ∃ cells' : Array Value, Instr.fill place cells ((i, v) :: rest) = Instr.fill place cells' rest ∧ cells'.size = cells.size ∧
   ∀ k : Nat, cells'[k]? = if off ≤ k ∧ k < off + v.cells.size then v.cells[k - off]? else cells[k]? := by
 have hne : ¬ (off + v.cells.size > cells.size) := by omega
 obtain ⟨h1, h2⟩ := fold_set off v.cells.toList 0 cells (by simpa using hfit)
 refine ⟨_, ?_, h1, fun k => ?_⟩
 ·conv => lhs; unfold Instr.fill
  simp only [hp, ne_eq, not_true_eq_false, decide_false, Bool.false_or, decide_eq_true_eq, if_neg hne]
  congr 1
  rw [← Array.foldl_toList, Array.toList_zipIdx]
 have := h2 k
 simpa using this

def afill (flds : List (Nat × Nat)) : List (Nat × AV) → List AV → Option (List AV)
 | [], cells => some cells
 | (k, v) :: r, cells => match flds[k]? with
  | some p => match cellsOf v with
   | some cs => match Nat.beq cs.length p.2 with
    | true => match alld1 cs with
     | true => match setF p.1 cs cells with
      | some cells' => afill flds r cells'
      | none => none
     | false => none
    | false => none
   | none => none
  | none => none

theorem afill_rep {S : Sit} {flds : List (Nat × Nat)} {place : Nat → Option (Nat × Nat)} (hpl : ∀ (k : Nat) (p : Nat × Nat), flds[k]? = some p → place k = some p) :
  ∀ {ps : List (Nat × AV)} {us : List (Nat × Value)} {cells : List AV} {ucells : Array Value} {r : List AV}, afill flds ps cells = some r → us.map (·.1) = ps.map (·.1) →
   (∀ (i : Nat) (p : Nat × AV) (u : Nat × Value), ps[i]? = some p → us[i]? = some u → Rep S p.2 u.2) → ucells.size = cells.length →
   (∀ (j : Nat) (x : AV), cells[j]? = some x → x.d1 = true ∧ ∃ u, ucells[j]? = some u ∧ Rep S x u) →
   ∃ out : Array Value, Instr.fill place ucells us = some out ∧ out.size = r.length ∧ r.length = cells.length ∧ ∀ (j : Nat) (x : AV), r[j]? = some x → x.d1 = true ∧ ∃ u, out[j]? = some u ∧ Rep S x u
 | [], us, cells, ucells, r, h, hk, _, hs, hc => by
  simp at hk
  subst hk
  simp [afill] at h
  subst h
  exact ⟨ucells, rfl, hs, rfl, hc⟩
 | (k, v) :: ps, us, cells, ucells, r, h, hk, hr, hs, hc => by
  cases us with
  | nil => simp at hk
  | cons u us =>
   simp only [List.map_cons, List.cons.injEq] at hk
   obtain ⟨i, uv⟩ := u
   obtain ⟨rfl, hk⟩ := hk
   unfold afill at h
   split at h
   ·rename_i p hp
    split at h
    ·rename_i cs hcs
     split at h
     ·rename_i hb
      split at h
      ·rename_i hd
       split at h
       ·rename_i cells' hset
        have hb := Nat.eq_of_beq_eq_true hb
        have hd := alld1_at hd
        obtain ⟨f1, f2, f3⟩ := setF_spec hset
        have rv : Rep S v uv := hr 0 _ _ rfl rfl
        obtain ⟨c1, c2⟩ := cellsOf_rep rv hcs
        obtain ⟨out1, e1, e2, e3⟩ := fill_cons (place := place) (cells := ucells) (i := i) (v := uv) (rest := us) (off := p.1) (by rw [hpl i p hp, c1, hb]) (by rw [c1, hs]; exact f2)
        rw [e1]
        obtain ⟨out, g1, g2, g3, g4⟩ := afill_rep hpl (ps := ps) (us := us) (cells := cells') (ucells := out1) h hk (fun j p u hj hu => hr (j + 1) p u hj hu) (by rw [e2, f1, hs]) (fun j x hj => by
         rw [f3 j] at hj
         rw [e3 j, c1]
         by_cases hin : p.1 ≤ j ∧ j < p.1 + cs.length
         ·rw [if_pos hin] at hj ⊢
          refine ⟨hd _ x hj, uv.cells.getD (j - p.1) undef, ?_, c2 _ x hj⟩
          have : j - p.1 < uv.cells.size := by omega
          simp [Array.getD, this]
         rw [if_neg hin] at hj ⊢
         exact hc j x hj)
        exact ⟨out, g1, g2, g3.trans f1, g4⟩
       cases h
      cases h
     cases h
    cases h
   cases h

theorem zval_rep {S : Sit} {v : AV} (h : zok v = true) : RepC S v (zval v) ∧ v.d1 = true := by
 unfold zok at h
 split at h
 ·exact ⟨.int _ _, rfl⟩
 ·exact ⟨.bool _, rfl⟩
 ·exact ⟨.str _, rfl⟩
 ·exact ⟨.nilp, rfl⟩
 ·exact ⟨.imm0 _ _ _ _ _ (fun _ => rfl) (Nat.zero_le _), rfl⟩
 ·exact ⟨.nilfn, rfl⟩
 ·exact ⟨.nilif, rfl⟩
 cases h

theorem zero_rep {P : Program} {T : TypeId} {i : TI} (h : TOK P T i) (S : Sit) : ∃ ti z, P.info? T = some ti ∧ ti.size = i.size ∧ ti.bytes = i.bytes ∧ ti.zero = some z ∧ z.cells.size = i.zero.length ∧
  ∀ (j : Nat) (x : AV), i.zero[j]? = some x → x.d1 = true ∧ ∃ u, z.cells[j]? = some u ∧ RepC S x u := by
 obtain ⟨ti, z, h1, h2, h3, h4, h5⟩ := h.info
 refine ⟨ti, z, h1, h2, h3, h4, by rw [h5]; simp, fun j x hj => ?_⟩
 have := zval_rep (S := S) (List.all_eq_true.1 h.zk x (List.mem_of_getElem? hj))
 exact ⟨this.2, zval x, by rw [h5]; simp [hj], this.1⟩

def oevp (env : List (Nat × AV)) : List (Nat × Operand) → Option (List (Nat × AV))
 | [] => some []
 | (k, x) :: r => match oev env x with
  | some v => match oevp env r with
   | some vs => some ((k, v) :: vs)
   | none => none
  | none => none

theorem oevp_rep {C : Ctx} {σ : St} {a : Act} {w : World} {S : Sit} (hat : At C σ a w S) : ∀ {xs : List (Nat × Operand)} {vs : List (Nat × AV)}, oevp σ.env xs = some vs →
  (xs.map fun x => (x.1, a.eval x.2)).map (·.1) = vs.map (·.1) ∧ ∀ (j : Nat) (p : Nat × AV) (u : Nat × Value), vs[j]? = some p → (xs.map fun x => (x.1, a.eval x.2))[j]? = some u → Rep S p.2 u.2
 | [], vs, h => by cases h; exact ⟨rfl, fun j v u hj => by simp at hj⟩
 | (k, x) :: r, vs, h => by
  unfold oevp at h
  split at h
  ·rename_i v hv
   split at h
   ·rename_i vs' hvs
    cases h
    obtain ⟨h1, h2⟩ := oevp_rep hat hvs
    refine ⟨by simpa using h1, fun j p u hj hu => ?_⟩
    cases j with
    | zero => simp at hj hu; subst hj; subst hu; exact oev_rep hat hv
    | succ j => exact h2 j p u (by simpa using hj) (by simpa using hu)
   cases h
  cases h

theorem build_step {C : Ctx} {Γ : TTab} (hG : GOK C.P Γ) {σ : St} {o : Oper} {T : TypeId} {ps : List (Nat × Operand)} (ho : o.op = .build T ps.toArray) {vs : List (Nat × AV)} (hv : oevp σ.env ps = some vs)
  {i : TI} (hT : look T Γ = some i) (hf : i.flds ≠ []) {cells : List AV} (h : afill i.flds vs i.zero = some cells) : Pu C o σ (.agg cells) := by
 intro a w S hat
 have hK := hG T i hT
 obtain ⟨v1, v2⟩ := oevp_rep hat hv
 obtain ⟨ti, z, z1, z2, z3, z4, z5, z6⟩ := zero_rep hK S
 rcases hK.fld with h0 | ⟨fs, hd, hfo, hfl⟩
 ·exact absurd h0 hf
 have hplaces : fs.toList.mapM (fun f => (C.P.info? f.type).map fun i => (f.offset, i.size)) = some i.flds := by
  have key : ∀ (l : List (Nat × Nat)) (k : Nat) (fl : List Field), FOK C.P fs k l → fs.toList.drop k = fl → fl.length = l.length → fl.mapM (fun f => (C.P.info? f.type).map fun i => (f.offset, i.size)) = some l := by
   intro l
   induction l with
   | nil => intro k fl _ _ hl; simp at hl; subst hl; rfl
   | cons p r ih =>
    intro k fl hf' hdr hl
    cases fl with
    | nil => simp at hl
    | cons f fl =>
     obtain ⟨⟨g, g1, g2, g3, _⟩, hrest⟩ := hf'
     have hfg : f = g := by
      have : (fs.toList.drop k)[0]? = some f := by rw [hdr]; rfl
      rw [List.getElem?_drop] at this
      simp only [Nat.add_zero, Array.getElem?_toList] at this
      rw [g1] at this; cases this; rfl
     subst hfg
     obtain ⟨ti', t1, t2⟩ := Option.map_eq_some_iff.1 g3
     have := ih (k + 1) fl hrest (by rw [← List.tail_drop, hdr]; rfl) (by simpa using hl)
     simp [t1, this, g2, t2]
  exact key i.flds 0 fs.toList hfo (by simp) (by simpa using hfl)
 obtain ⟨out, o1, o2, o3, o4⟩ := afill_rep (S := S) (place := fun (k : Nat) => i.flds[k]?) (fun k p hp => hp) h v1 v2 (by rw [z5]) (fun j x hj => let ⟨q1, u, q2, q3⟩ := z6 j x hj; ⟨q1, u, q2, .clo q3⟩)
 refine ⟨.agg out, ?_, .agg cells out o2 (fun j x hj => (o4 j x hj).1) (fun j x hj => ?_)⟩
 ·have hb : C.P.built T (ps.map fun x => (x.1, a.eval x.2)) = some out := by
   unfold Program.built
   simp only [z1, hK.und, hd, z4, hplaces]
   have : (fun (x : Nat) => i.flds.toArray[x]?) = fun (k : Nat) => i.flds[k]? := by funext k; simp
   rw [this]
   exact o1
  intro w1
  unfold execOp
  simp only [ho, Sem.run_bind]
  rw [run_build w1 T _ out (by simpa using hb)]
  rfl
 obtain ⟨_, u, hu, hr⟩ := o4 j x hj
 simpa [hu] using hr

theorem box_step {C : Ctx} {σ : St} {o : Oper} {T : TypeId} {x : Operand} (ho : o.op = .box T x) {d : Nat} (hfree : look d σ.l = none) {v : AV} (hx : oev σ.env x = some v) {cs : List AV} (hcs : cellsOf v = some cs) (hd : alld1 cs = true) :
  Step C [] o σ (.optr (.loc d) 0 0) ⟨σ.env, (d, ⟨T, cs.length, true, [cs]⟩) :: σ.l, σ.b, σ.O, σ.tk⟩ := by
 intro a w S hat
 have rv := oev_rep hat hx
 obtain ⟨c1, c2⟩ := cellsOf_rep rv hcs
 have hd' := alld1_at hd
 obtain ⟨S', hat', hmov, hβ, hO⟩ := hat.add hfree ⟨T, cs.length, true, [cs]⟩ (a.eval x).cells (by simp; omega) (fun _ => ⟨rfl, c1⟩) (fun e he => by simp at he; subst he; rfl)
  (fun i e j v hi hj => by
   have h0 : i = 0 := by have := (List.getElem?_eq_some_iff.1 hi).1; simp at this; omega
   subst h0
   simp at hi
   subst hi
   have hjl := (List.getElem?_eq_some_iff.1 hj).1
   refine ⟨hd' j v hj, (a.eval x).cells.getD j undef, ?_, c2 j v hj, fun h => by cases h⟩
   rw [← c1] at hjl
   simp [Array.getD, hjl]) _ (.inr rfl)
 refine ⟨.pointer (some ⟨w.heap.size, 0, none⟩), _, S', .inl ?_, hat', ?_, keep_alloc hmov (.inl (by rw [hat'.w, hat.w]))⟩
 ·unfold execOp
  simp [ho, Instr.box, newVar, newRow]
 have := Rep.optr (S := S') (.loc d) 0 0 _ hO
 simpa [hβ] using this

theorem alloc_step {C : Ctx} {Γ : TTab} (hG : GOK C.P Γ) {σ : St} {o : Oper} {T : TypeId} (ho : o.op = .alloc T) {d : Nat} (hfree : look d σ.l = none) {i : TI} (hT : look T Γ = some i) :
  Step C [] o σ (.optr (.loc d) 0 0) ⟨σ.env, (d, ⟨T, i.size, true, [i.zero]⟩) :: σ.l, σ.b, σ.O, σ.tk⟩ := by
 intro a w S hat
 have hK := hG T i hT
 obtain ⟨ti, z, z1, z2, z3, z4, z5, z6⟩ := zero_rep hK S
 obtain ⟨S', hat', hmov, hβ, hO⟩ := hat.add hfree ⟨T, i.size, true, [i.zero]⟩ z.cells (by simp [z5, hK.zl]) (fun _ => ⟨rfl, by rw [z5, hK.zl]⟩) (fun e he => by simp at he; subst he; exact hK.zl)
  (fun k e j v hi hj => by
   have h0 : k = 0 := by have := (List.getElem?_eq_some_iff.1 hi).1; simp at this; omega
   subst h0
   simp at hi
   subst hi
   obtain ⟨q1, u, q2, q3⟩ := z6 j v hj
   exact ⟨q1, u, by simpa using q2, .clo q3, fun h => by cases h⟩) _ (.inr rfl)
 refine ⟨.pointer (some ⟨w.heap.size, 0, none⟩), _, S', .inl ?_, hat', ?_, keep_alloc hmov (.inl (by rw [hat'.w, hat.w]))⟩
 ·unfold execOp
  simp [ho, Instr.alloc, newVar, newRow, zeroValue, typeInfo, z1, z4]
 have := Rep.optr (S := S') (.loc d) 0 0 _ hO
 simpa [hβ] using this

end Go.Am

/- The abstract memory logic, eleventh part: a row that nobody writes any more. -/
namespace Go.Am
open Go

def isLoc (k : Nat) : ID → Bool
 | .loc j => Nat.beq j k
 | _ => false

theorem isLoc_true {k : Nat} {x : ID} (h : isLoc k x = true) : x = .loc k := by
 unfold isLoc at h
 split at h
 ·rw [Nat.eq_of_beq_eq_true h]
 cases h
theorem isLoc_false {k : Nat} {x : ID} (h : isLoc k x = false) : x ≠ .loc k := by
 rintro rfl
 simp [isLoc] at h

def occC (k : Nat) : List AV → Bool
 | [] => false
 | v :: l => match v with
  | .optr x _ _ => match isLoc k x with
   | true => true
   | false => occC k l
  | _ => occC k l

def subC (k : Nat) (r : AV) : AV → AV
 | .osl x => match isLoc k x with
  | true => r
  | false => .osl x
 | .optr x i off => match isLoc k x with
  | true => .jnk
  | false => .optr x i off
 | .fn f a b => match occC k a || occC k b with
  | true => .jnk
  | false => .fn f a b
 | v => v

def subL (k : Nat) (r : AV) : List AV → List AV
 | [] => []
 | v :: l => match v with
  | .osl x => match isLoc k x with
   | true => r :: subL k r l
   | false => .osl x :: subL k r l
  | .optr x i off => match isLoc k x with
   | true => .jnk :: subL k r l
   | false => .optr x i off :: subL k r l
  | .fn f a b => match occC k a || occC k b with
   | true => .jnk :: subL k r l
   | false => .fn f a b :: subL k r l
  | v => v :: subL k r l

def subV (k : Nat) (r : AV) : AV → AV
 | .osl x => match isLoc k x with
  | true => r
  | false => .osl x
 | .optr x i off => match isLoc k x with
  | true => .any
  | false => .optr x i off
 | .fn f a b => match (occC k a || occC k b) || !(allc0 a && allc0 b) with
  | true => .any
  | false => .fn f a b
 | .agg cs => .agg (subL k r cs)
 | .tup _ => .any
 | v => v

def subE (k : Nat) (r : AV) : List (Nat × AV) → List (Nat × AV)
 | [] => []
 | (i, v) :: l => (i, subV k r v) :: subE k r l

def subO (k : Nat) (r : AV) : List (Nat × Obj) → List (Nat × Obj)
 | [] => []
 | (i, o) :: l => match o with
  | ⟨ty, sz, box, es⟩ => match box with
   | true => match es with
    | [e] => (i, ⟨ty, sz, true, [subL k r e]⟩) :: subO k r l
    | es => (i, ⟨ty, sz, true, es.map (subL k r)⟩) :: subO k r l
   | false => (i, ⟨ty, sz, false, es⟩) :: subO k r l

def Obj.sub (k : Nat) (r : AV) (o : Obj) : Obj := if o.box then { o with es := o.es.map (subL k r) } else o

theorem look_subE {k : Nat} {r : AV} : ∀ {l : List (Nat × AV)} (i : Nat), look i (subE k r l) = (look i l).map (subV k r)
 | [], i => rfl
 | (j, v) :: l, i => by
  simp only [subE, look]
  cases Nat.beq i j with
  | true => rfl
  | false => exact look_subE i

theorem look_subO {k : Nat} {r : AV} : ∀ {l : List (Nat × Obj)} (i : Nat), look i (subO k r l) = (look i l).map (Obj.sub k r)
 | [], i => rfl
 | (j, ⟨ty, sz, box, es⟩) :: l, i => by
  have ih := look_subO (k := k) (r := r) (l := l) i
  simp only [subO]
  cases box with
  | true =>
   simp only
   have key : ∀ es' : List (List AV), es' = es.map (subL k r) → look i ((j, (⟨ty, sz, true, es'⟩ : Obj)) :: subO k r l) = (look i ((j, (⟨ty, sz, true, es⟩ : Obj)) :: l)).map (Obj.sub k r) := by
    intro es' he
    subst he
    simp only [look]
    cases Nat.beq i j with
    | true => simp [Obj.sub]
    | false => exact ih
   match es, key with
   | [], key => exact key _ rfl
   | [e], key => exact key _ rfl
   | e :: f :: r, key => exact key _ rfl
  | false =>
   simp only [look]
   cases Nat.beq i j with
   | true => simp [Obj.sub]
   | false => exact ih

theorem subL_get {k : Nat} {r : AV} : ∀ {l : List AV} (j : Nat), (subL k r l)[j]? = (l[j]?).map (subC k r)
 | [], j => by simp [subL]
 | v :: l, j => by
  have ih := subL_get (k := k) (r := r) (l := l)
  cases j with
  | zero =>
   cases v <;> simp [subL, subC] <;> split <;> simp_all
  | succ j =>
   have : (subL k r (v :: l))[j + 1]? = (subL k r l)[j]? := by
    cases v <;> simp [subL] <;> split <;> simp
   rw [this, ih j]
   simp

theorem subL_length {k : Nat} {r : AV} : ∀ {l : List AV}, (subL k r l).length = l.length
 | [] => rfl
 | v :: l => by
  have ih := subL_length (k := k) (r := r) (l := l)
  cases v <;> simp [subL] <;> first | exact ih | (split <;> simp [ih])

structure Gone (S S' : Sit) (k : Nat) (r : AV) : Prop extends Le S S' where
 keep : ∀ x o, S.O x = some o → x ≠ .loc k → ∃ o', S'.O x = some o' ∧ o'.ty = o.ty ∧ o'.sz = o.sz ∧ o'.box = o.box ∧ S'.β x = S.β x ∧ o'.es.length = o.es.length ∧
  ∀ cur : Array Value, S.w.heap[S.β x]? = some (.cells cur o.ty (0, 0)) → ∃ cur' : Array Value, S'.w.heap[S.β x]? = some (.cells cur' o.ty (0, 0)) ∧ cur'.size = cur.size
 row : ∀ u, Rep S (.osl (.loc k)) u → Rep S' r u
 hid : ∀ x sz, S.hid x = some sz → S'.hid x = some sz ∧ S'.β x = S.β x
 rd : r.d1 = true

theorem rep_one {S : Sit} {x : ID} {i off : Nat} {u : Value} (h : Rep S (.optr x i off) u) : u.oneCell' = true := by
 cases h with
 | clo h => cases h
 | optr => rfl
 | hidp => rfl

theorem occC_false {k : Nat} : ∀ {l : List AV}, occC k l = false → ∀ (j : Nat) (x : ID) (i off : Nat), l[j]? = some (.optr x i off) → x ≠ .loc k
 | [], _, j, x, i, off, h => by simp at h
 | v :: l, h, j, x, i, off, hj => by
  have hl : occC k l = false := by
   unfold occC at h
   split at h
   ·split at h
    ·cases h
    exact h
   exact h
  cases j with
  | zero =>
   simp at hj
   subst hj
   unfold occC at h
   simp only at h
   split at h
   ·cases h
   rename_i hx
   exact isLoc_false hx
  | succ j => exact occC_false hl j x i off (by simpa using hj)

theorem c0_gone {S S' : Sit} {k : Nat} {r : AV} (hg : Gone S S' k r) {v : AV} {u : Value} (h : Rep S v u) (hc : v.c0 = true) (hne : ∀ x i off, v = .optr x i off → x ≠ .loc k) : Rep S' v u := by
 cases h with
 | any => cases hc
 | jnk => cases hc
 | clo h => exact .clo (h.le hg.toLe)
 | optr x i off o ho =>
  obtain ⟨o', h', _, hz, _, hb, _⟩ := hg.keep x o ho (hne x i off rfl)
  rw [← hb, ← hz]
  exact .optr x i off o' h'
 | hidp x i off sz h => rw [← (hg.hid x sz h).2]; exact .hidp x i off sz (hg.hid x sz h).1
 | osl => cases hc
 | fn => cases hc
 | agg => cases hc
 | tup => cases hc

theorem fn_gone {S S' : Sit} {k : Nat} {r : AV} (hg : Gone S S' k r) {f : Fn} {a b : List AV} {u : Value} (h : Rep S (.fn f a b) u) (ha : allc0 a = true) (hb : allc0 b = true) (ho : (occC k a || occC k b) = false) : Rep S' (.fn f a b) u := by
 simp only [Bool.or_eq_false_iff] at ho
 cases h with
 | clo h => exact .clo (h.le hg.toLe)
 | fn _ _ _ us1 us2 l1 l2 h1 h2 =>
  exact .fn f a b us1 us2 l1 l2 (fun j x hj => c0_gone hg (h1 j x hj) (allc0_at ha j x hj) fun y i off e => occC_false ho.1 j y i off (by rw [hj, e]))
   (fun j x hj => c0_gone hg (h2 j x hj) (allc0_at hb j x hj) fun y i off e => occC_false ho.2 j y i off (by rw [hj, e]))

theorem fn_one {S : Sit} {f : Fn} {a b : List AV} {u : Value} (h : Rep S (.fn f a b) u) : u.oneCell' = true := by
 cases h with
 | clo h => cases h; rfl
 | fn => rfl

theorem cell_gone {S S' : Sit} {k : Nat} {r : AV} (hg : Gone S S' k r) {v : AV} {u : Value} (h : Rep S v u) (hd : v.d1 = true) :
  Rep S' (subC k r v) u ∧ (subC k r v).d1 = true := by
 cases v with
 | fn f a b =>
  have hab : allc0 a = true ∧ allc0 b = true := by
   unfold AV.d1 at hd
   split at hd <;> first | cases hd | skip
   all_goals first | (rename_i heq; cases heq) | skip
   all_goals (split at hd <;> first | exact ⟨by assumption, hd⟩ | cases hd)
  simp only [subC]
  cases hoc : (occC k a || occC k b) with
  | true => exact ⟨.jnk _ (fn_one h), rfl⟩
  | false => exact ⟨fn_gone hg h hab.1 hab.2 hoc, hd⟩
 | osl x =>
  simp only [subC]
  cases hx : isLoc k x with
  | true =>
   have := isLoc_true hx
   subst this
   exact ⟨hg.row u h, hg.rd⟩
  | false =>
   refine ⟨?_, rfl⟩
   cases h with
   | clo h => cases h
   | osl _ o c cur ho hb hw hc hl hm' =>
    obtain ⟨o', h', ht, hz, hb', hbe, hl', hcur⟩ := hg.keep x o ho (isLoc_false hx)
    obtain ⟨cur', hw', hs'⟩ := hcur cur hw
    rw [← hbe, ← hl']
    exact .osl x o' c cur' h' (hb'.trans hb) (by rw [hbe, ht]; exact hw') (by rw [hs', hz]; exact hc) (by omega) hm'
 | optr x i off =>
  simp only [subC]
  cases hx : isLoc k x with
  | true => exact ⟨.jnk _ (rep_one h), rfl⟩
  | false => exact ⟨c0_gone hg h rfl fun y i' off' e => by cases e; exact isLoc_false hx, rfl⟩
 | any => cases hd
 | jnk =>
  refine ⟨?_, rfl⟩
  cases h with
  | jnk _ h => exact .jnk _ h
  | clo h => cases h
 | int k n => exact ⟨.clo ((cl_repc h rfl).le hg.toLe), rfl⟩
 | bool b => exact ⟨.clo ((cl_repc h rfl).le hg.toLe), rfl⟩
 | str s => exact ⟨.clo ((cl_repc h rfl).le hg.toLe), rfl⟩
 | nilp => exact ⟨.clo ((cl_repc h rfl).le hg.toLe), rfl⟩
 | cptr cs => exact ⟨.clo ((rep_cptr h).le hg.toLe), rfl⟩
 | imm a b c d => exact ⟨.clo ((cl_repc h rfl).le hg.toLe), rfl⟩
 | nilfn => exact ⟨.clo ((cl_repc h rfl).le hg.toLe), rfl⟩
 | iface t v => cases hd
 | nilif => exact ⟨.clo ((cl_repc h rfl).le hg.toLe), rfl⟩
 | agg cs => cases hd
 | tup cs => cases hd

theorem Rep.gone {S S' : Sit} {k : Nat} {r : AV} (hg : Gone S S' k r) {v : AV} {u : Value} (h : Rep S v u) : Rep S' (subV k r v) u := by
 cases v with
 | fn f a b =>
  simp only [subV]
  split
  ·exact .any _
  rename_i hc
  simp only [Bool.or_eq_false_iff, Bool.not_eq_false', Bool.and_eq_true] at hc
  exact fn_gone hg h hc.2.1 hc.2.2 (by simp [hc.1.1, hc.1.2])
 | agg cs =>
  simp only [subV]
  obtain ⟨us, rfl, hl, hs, hr⟩ := rep_agg h
  refine .agg _ us (by rw [subL_length]; exact hl) (fun j x hj => ?_) (fun j x hj => ?_)
  ·rw [subL_get] at hj
   obtain ⟨v, hv, rfl⟩ := Option.map_eq_some_iff.1 hj
   exact (cell_gone hg (hr j v hv) (hs j v hv)).2
  rw [subL_get] at hj
  obtain ⟨v, hv, rfl⟩ := Option.map_eq_some_iff.1 hj
  exact (cell_gone hg (hr j v hv) (hs j v hv)).1
 | tup cs => exact .any _
 | any => exact .any _
 | iface t v =>
  cases h with
  | clo h => exact .clo (h.le hg.toLe)
 | optr x i off =>
  have := cell_gone hg h rfl
  simp only [subV, subC] at this ⊢
  split
  ·exact .any _
  rename_i hx
  rw [hx] at this
  exact this.1
 | osl x => exact (cell_gone hg h rfl).1
 | jnk => exact (cell_gone hg h rfl).1
 | int k n => exact (cell_gone hg h rfl).1
 | bool b => exact (cell_gone hg h rfl).1
 | str s => exact (cell_gone hg h rfl).1
 | nilp => exact (cell_gone hg h rfl).1
 | cptr cs => exact (cell_gone hg h rfl).1
 | imm a b c d => exact (cell_gone hg h rfl).1
 | nilfn => exact (cell_gone hg h rfl).1
 | nilif => exact (cell_gone hg h rfl).1

end Go.Am

/- The abstract memory logic, twelfth part: a row of the call's own is frozen, or grows. -/
namespace Go.Am
open Go

theorem occC_up (k : Nat) : ∀ (l : List AV), occC k (l.map AV.up0) = false
 | [] => rfl
 | v :: l => by
  have ih := occC_up k l
  cases v <;> simp [occC, AV.up0, ih, isLoc]

theorem subC_up (k : Nat) (r : AV) (v : AV) : subC k r v.up = v.up := by
 cases v <;> simp [subC, AV.up, isLoc, occC_up]

def dele (k : Nat) : List (Nat × Obj) → List (Nat × Obj)
 | [] => []
 | (j, o) :: l => match Nat.beq k j with
  | true => dele k l
  | false => (j, o) :: dele k l

theorem look_dele {k : Nat} : ∀ {l : List (Nat × Obj)} (i : Nat), look i (dele k l) = if i = k then none else look i l
 | [], i => by simp [dele, look]
 | (j, o) :: l, i => by
  have ih := look_dele (k := k) (l := l) i
  unfold dele
  cases hk : Nat.beq k j with
  | true =>
   have := Nat.eq_of_beq_eq_true hk
   subst this
   simp only [ih, look]
   by_cases hi : i = k
   ·simp [hi]
   have : Nat.beq i k = false := by rw [← Bool.not_eq_true]; intro hh; exact hi (Nat.eq_of_beq_eq_true hh)
   simp [hi, this]
  | false =>
   simp only [look]
   cases hi : Nat.beq i j with
   | true =>
    have := Nat.eq_of_beq_eq_true hi
    subst this
    have hne : i ≠ k := fun e => by subst e; rw [Nat.beq_refl] at hk; cases hk
    simp [hne]
   | false => simp [ih]

theorem heap_sub {C : Ctx} {σ : St} {k : Nat} {r : AV} {l' : List (Nat × Obj)} {tk' : Nat} (hl : ∀ i, i ≠ k → look i l' = look i (subO k r σ.l)) {x : ID} (hx : x ≠ .loc k) {o : Obj} :
  (C.heap σ x = some o → ∃ o', C.heap ⟨subE k r σ.env, l', σ.b, σ.O, tk'⟩ x = some o' ∧ o'.ty = o.ty ∧ o'.sz = o.sz ∧ o'.box = o.box ∧ o'.es.length = o.es.length ∧
   (o.box = false → o' = o) ∧ ∀ (i : Nat) (e' : List AV) (j : Nat) (v' : AV), o'.es[i]? = some e' → e'[j]? = some v' → o.box = true → ∃ e v, o.es[i]? = some e ∧ e[j]? = some v ∧ v' = subC k r v) ∧
  (C.heap σ x = none → C.heap ⟨subE k r σ.env, l', σ.b, σ.O, tk'⟩ x = none) := by
 have same : ∀ (H : Heap), C.heap ⟨subE k r σ.env, l', σ.b, σ.O, tk'⟩ x = C.heap σ x → (∀ o, C.heap σ x = some o → ∃ p : Obj, o = p.up) →
   (C.heap σ x = some o → ∃ o', C.heap ⟨subE k r σ.env, l', σ.b, σ.O, tk'⟩ x = some o' ∧ o'.ty = o.ty ∧ o'.sz = o.sz ∧ o'.box = o.box ∧ o'.es.length = o.es.length ∧
   (o.box = false → o' = o) ∧ ∀ (i : Nat) (e' : List AV) (j : Nat) (v' : AV), o'.es[i]? = some e' → e'[j]? = some v' → o.box = true → ∃ e v, o.es[i]? = some e ∧ e[j]? = some v ∧ v' = subC k r v) ∧
   (C.heap σ x = none → C.heap ⟨subE k r σ.env, l', σ.b, σ.O, tk'⟩ x = none) := by
  intro H he hp
  refine ⟨fun h => ⟨o, by rw [he]; exact h, rfl, rfl, rfl, rfl, fun _ => rfl, fun i e' j v' hi hj _ => ⟨e', v', hi, hj, ?_⟩⟩, fun h => by rw [he]; exact h⟩
  obtain ⟨p, rfl⟩ := hp o h
  simp only [Obj.up, List.getElem?_map] at hi
  obtain ⟨e, _, rfl⟩ := Option.map_eq_some_iff.1 hi
  rw [List.getElem?_map] at hj
  obtain ⟨v, _, rfl⟩ := Option.map_eq_some_iff.1 hj
  exact (subC_up k r v).symm
 cases x with
 | loc i =>
  have hik : i ≠ k := fun e => hx (by rw [e])
  show (look i σ.l = some o → ∃ o', look i l' = some o' ∧ _) ∧ (look i σ.l = none → look i l' = none)
  rw [hl i hik, look_subO]
  refine ⟨fun h => ?_, fun h => by rw [h]; rfl⟩
  rw [h]
  refine ⟨o.sub k r, rfl, ?_, ?_, ?_, ?_, ?_, ?_⟩
  ·unfold Obj.sub; split <;> rfl
  ·unfold Obj.sub; split <;> rfl
  ·unfold Obj.sub; split <;> rfl
  ·unfold Obj.sub; split <;> simp
  ·intro hb; simp [Obj.sub, hb]
  intro i e' j v' hi hj hb
  simp only [Obj.sub, hb, if_true, List.getElem?_map] at hi
  obtain ⟨e, he, rfl⟩ := Option.map_eq_some_iff.1 hi
  rw [subL_get] at hj
  obtain ⟨v, hv, rfl⟩ := Option.map_eq_some_iff.1 hj
  exact ⟨e, v, he, hv, rfl⟩
 | bor i => exact same (C.heap σ) rfl (fun o h => let ⟨p, _, hp⟩ := Option.map_eq_some_iff.1 h; ⟨p, hp.symm⟩)
 | up z =>
  refine same (C.heap σ) rfl fun o h => ?_
  have h' : (if z ∈ C.bor then none else (σ.O z).map Obj.up) = some o := h
  split at h'
  ·cases h'
  obtain ⟨p, _, hp⟩ := Option.map_eq_some_iff.1 h'
  exact ⟨p, hp.symm⟩

theorem At.freeze {C : Ctx} {σ : St} {a : Act} {w : World} {S : Sit} (h : At C σ a w S) {k : Nat} {o : Obj} (hk : look k σ.l = some o) (hb : o.box = false) :
  ∃ S', At C ⟨subE k (.imm σ.tk o.sz false o.es) σ.env, dele k (subO k (.imm σ.tk o.sz false o.es) σ.l), σ.b, σ.O, σ.tk + 1⟩ a w S' ∧ S'.w = S.w ∧ S'.β = S.β := by
 have hwS := h.w
 subst hwS
 have hSk : S.O (.loc k) = some o := by rw [h.O]; exact hk
 let r : AV := .imm σ.tk o.sz false o.es
 let σ' : St := ⟨subE k r σ.env, dele k (subO k r σ.l), σ.b, σ.O, σ.tk + 1⟩
 let S' : Sit := { S with O := C.heap σ', τ := fun t => if t = σ.tk then S.β (.loc k) else S.τ t, tk := σ.tk + 1 }
 have hl : ∀ i, i ≠ k → look i (dele k (subO k r σ.l)) = look i (subO k r σ.l) := fun i hi => by rw [look_dele, if_neg hi]
 have hheap := fun (x : ID) (hx : x ≠ .loc k) (o : Obj) => heap_sub (C := C) (σ := σ) (k := k) (r := r) (l' := dele k (subO k r σ.l)) (tk' := σ.tk + 1) hl hx (o := o)
 have hSk' : S'.O (.loc k) = none := by show look k (dele k (subO k r σ.l)) = none; rw [look_dele, if_pos rfl]
 have hlive : ∀ b, S'.live b → S.live b ∧ b ≠ S.β (.loc k) := by
  rintro b ⟨x, hx, rfl⟩
  have hxk : x ≠ .loc k := fun e => by rw [e, hSk'] at hx; cases hx
  have hxs : (S.O x).isSome = true := by
   cases hq : S.O x with
   | none => rw [h.O] at hq; have := (hheap x hxk o).2 hq; rw [show S'.O x = C.heap σ' x from rfl, this] at hx; cases hx
   | some _ => rfl
  exact ⟨⟨x, hxs, rfl⟩, fun e => hxk (h.sim.inj x _ hxs (by rw [hSk]; rfl) e)⟩
 have htk : S.tk = σ.tk := h.tk
 have hle : Le S S' := ⟨Nat.le_refl _, rfl, rfl, rfl, rfl, by show S.tk ≤ σ.tk + 1; omega, fun t ht => by show (if t = σ.tk then _ else _) = _; rw [if_neg (by omega)], fun b hb => ⟨⟨hb.1, fun hl => hb.2 (hlive b hl).1⟩, rfl⟩⟩
 obtain ⟨cur, q1, q2, q3, q4, q5⟩ := h.sim.obj _ _ hSk
 have hrow : ∀ u, Rep S (.osl (.loc k)) u → Rep S' r u := by
  intro u hu
  obtain ⟨o', c, cur', ho', hb', hw, hc, hl', hm, rfl⟩ := rep_osl hu
  rw [hSk] at ho'
  cases ho'
  cases hes : o.es with
  | nil =>
   show Rep S' (.imm σ.tk o.sz false o.es) _
   rw [hes]
   exact .clo (.imm0 _ _ _ _ _ (fun h => by cases h) hm)
  | cons e0 es0 =>
   have hne : o.es ≠ [] := by rw [hes]; exact fun h => by cases h
   rw [← hes]
   refine .clo (.imm σ.tk o.sz false o.es (S.β (.loc k)) 0 c (fun i j => cur.getD (i * o.sz + j) undef) hne ⟨h.sim.lt hSk, fun hl => (hlive _ hl).2 rfl⟩ hl' hm (fun h => by cases h)
    (fun _ => ⟨by show σ.tk < σ.tk + 1; omega, by show (if σ.tk = σ.tk then _ else _) = _; rw [if_pos rfl], rfl, cur, o.ty, q1⟩) (fun h0 => by have := h.sim.tk2; omega) q4 (fun i e j x hi hj => (q5 i e j x hi hj).1) ?_ ?_)
   ·intro i e j x hi hj
    obtain ⟨_, v, hv, _⟩ := q5 i e j x hi hj
    show World.cell? S.w _ = _
    rw [Nat.zero_add]
    have hlt := (Array.getElem?_eq_some_iff.1 hv).1
    simp [World.cell?, q1, Array.getD, hlt]
   intro i e j x hi hj
   obtain ⟨_, v, hv, _, hr⟩ := q5 i e j x hi hj
   have : cur.getD (i * o.sz + j) undef = v := by simp [hv]
   rw [this]
   exact (hr hb).le hle
 have hgone : Gone S S' k r := ⟨hle, fun x ox hx hxk => by
  rw [h.O] at hx
  obtain ⟨o', r1, r2, r3, r4, r5, _, _⟩ := (hheap x hxk ox).1 hx
  exact ⟨o', r1, r2, r3, r4, rfl, r5, fun c hc => ⟨c, hc, rfl⟩⟩, hrow, fun x z hx => ⟨hx, rfl⟩, rfl⟩
 have hsim : SimH S' := by
  refine ⟨fun x ox hx => ?_, fun x y hx hy hxy => ?_, fun x hx => ?_, fun t h1 h2 => ?_, fun t t' h1 h2 h3 h4 he => ?_, h.sim.b0, fun x z hx => ?_, by show 2 ≤ σ.tk + 1; have := h.sim.tk2; omega⟩
  ·have hxk : x ≠ .loc k := fun e => by rw [e, hSk'] at hx; cases hx
   have hxs : ∃ oo, S.O x = some oo := by
    cases hq : S.O x with
    | none => rw [h.O] at hq; have := (hheap x hxk o).2 hq; rw [show S'.O x = C.heap σ' x from rfl, this] at hx; cases hx
    | some oo => exact ⟨oo, rfl⟩
   obtain ⟨oo, hoo⟩ := hxs
   obtain ⟨o', r1, r2, r3, r4, r5, r6, r7⟩ := (hheap x hxk oo).1 (by rw [← h.O]; exact hoo)
   rw [show S'.O x = C.heap σ' x from rfl, r1] at hx
   cases hx
   obtain ⟨c, p1, p2, p3, p4, p5⟩ := h.sim.obj x oo hoo
   refine ⟨c, by rw [r2]; exact p1, by rw [r3, r5]; exact p2, fun hbx => by rw [r5, r3]; exact p3 (by rw [← r4]; exact hbx), ?_, fun i e j v hi hj => ?_⟩
   ·intro e he
    rw [r3]
    cases hbx : oo.box with
    | false => rw [r6 hbx] at he; exact p4 e he
    | true =>
     obtain ⟨i, hi⟩ := List.mem_iff_getElem?.1 he
     -- its length is its elder's
     obtain ⟨e0, he0⟩ : ∃ e0, oo.es[i]? = some e0 := ⟨_, List.getElem?_eq_getElem (by rw [← r5]; exact (List.getElem?_eq_some_iff.1 hi).1)⟩
     have hlen := p4 e0 (List.mem_of_getElem? he0)
     -- by the form of the substitution
     cases x with
     | loc n =>
      have hnk : n ≠ k := fun e => hxk (by rw [e])
      have hoo' : look n σ.l = some oo := by rw [h.O] at hoo; exact hoo
      have : look n (dele k (subO k r σ.l)) = some ox := r1
      rw [hl n hnk, look_subO, hoo'] at this
      cases this
      simp only [Obj.sub, hbx, if_true, List.getElem?_map, he0, Option.map_some, Option.some.injEq] at hi
      rw [← hi, subL_length]; exact hlen
     | bor n =>
      have hoo' : C.heap σ (.bor n) = some oo := by rw [← h.O]; exact hoo
      have : C.heap σ (.bor n) = some ox := r1
      rw [hoo'] at this; cases this
      exact p4 e he
     | up n =>
      have hoo' : C.heap σ (.up n) = some oo := by rw [← h.O]; exact hoo
      have : C.heap σ (.up n) = some ox := r1
      rw [hoo'] at this; cases this
      exact p4 e he
   rw [r3]
   cases hbx : oo.box with
   | false =>
    have := r6 hbx
    subst this
    obtain ⟨s1, u, s2, s3, s4⟩ := p5 i e j v hi hj
    exact ⟨s1, u, s2, .clo ((s4 hbx).le hle), fun _ => (s4 hbx).le hle⟩
   | true =>
    obtain ⟨e0, v0, t1, t2, rfl⟩ := r7 i e j v hi hj hbx
    obtain ⟨s1, u, s2, s3, s4⟩ := p5 i e0 j v0 t1 t2
    have := cell_gone hgone s3 s1
    exact ⟨this.2, u, s2, this.1, fun hf => by rw [r4, hbx] at hf; cases hf⟩
  ·obtain ⟨h1, _⟩ := hlive _ ⟨x, hx, rfl⟩
   have f : ∀ x, (S'.O x).isSome = true → (S.O x).isSome = true := fun x hx => by
    have hxk : x ≠ .loc k := fun e => by rw [e, hSk'] at hx; cases hx
    cases hq : S.O x with
    | none => rw [h.O] at hq; have := (hheap x hxk o).2 hq; rw [show S'.O x = C.heap σ' x from rfl, this] at hx; cases hx
    | some _ => rfl
   exact h.sim.inj x y (f x hx) (f y hy) hxy
  ·have hxk : x ≠ .loc k := fun e => by rw [e, hSk'] at hx; cases hx
   refine h.sim.base x ?_
   cases hq : S.O x with
   | none => rw [h.O] at hq; have := (hheap x hxk o).2 hq; rw [show S'.O x = C.heap σ' x from rfl, this] at hx; cases hx
   | some _ => rfl
  ·show (if t = σ.tk then _ else _) < _ ∧ ¬ S'.live (if t = σ.tk then _ else _) ∧ _ ≤ (if t = σ.tk then _ else _)
   by_cases ht : t = σ.tk
   ·rw [if_pos ht]
    exact ⟨h.sim.lt hSk, fun hl => (hlive _ hl).2 rfl, h.sim.base _ (by rw [hSk]; rfl)⟩
   rw [if_neg ht]
   have h2' : t < σ.tk + 1 := h2
   obtain ⟨s1, s2, s3⟩ := h.sim.tok t h1 (by omega)
   exact ⟨s1, fun hl => s2 (hlive _ hl).1, s3⟩
  ·have h2' : t < σ.tk + 1 := h2
   have h4' : t' < σ.tk + 1 := h4
   have he' : (if t = σ.tk then S.β (.loc k) else S.τ t) = (if t' = σ.tk then S.β (.loc k) else S.τ t') := he
   by_cases ht : t = σ.tk <;> by_cases ht' : t' = σ.tk
   ·omega
   ·rw [if_pos ht, if_neg ht'] at he'
    exact absurd ⟨_, by rw [hSk]; rfl, he'⟩ (h.sim.tok t' h3 (by omega)).2.1
   ·rw [if_neg ht, if_pos ht'] at he'
    exact absurd ⟨_, by rw [hSk]; rfl, he'.symm⟩ (h.sim.tok t h1 (by omega)).2.1
   rw [if_neg ht, if_neg ht'] at he'
   exact h.sim.tinj t t' h1 (by omega) h3 (by omega) he'
  have hx' := h.sim.hid x z hx
  rw [h.O] at hx'
  exact (hheap x (fun e => by subst e; rw [show S'.hid = S.hid from rfl, h.hl k] at hx; cases hx) o).2 hx'
 refine ⟨S', ⟨rfl, rfl, rfl, hsim, fun i v hv => ?_, h.nt, h.defers, ?_, fun i hi => ?_, h.bl, h.nd, h.bb, h.h0, h.hl, h.hu, h.hv, h.hf, h.inv⟩, rfl, rfl⟩
 ·rw [look_subE] at hv
  obtain ⟨v0, hv0, rfl⟩ := Option.map_eq_some_iff.1 hv
  obtain ⟨u, hu, hr⟩ := h.env i v0 hv0
  exact ⟨u, hu, hr.gone hgone⟩
 ·exact h.ext.own rfl rfl rfl rfl (by show S.tk ≤ σ.tk + 1; omega) (fun t ht => by show (if t = σ.tk then _ else _) = _; rw [if_neg (by have : t < S.tk := ht; omega)]; rfl) rfl rfl rfl (Nat.le_refl _) (fun x o hx => h.h0.lt hx) (fun _ _ => rfl) (fun t h1 h2 => by have h1' : S.tk ≤ t := h1; have h2' : t < σ.tk + 1 := h2; show C.S0.w.heap.size ≤ (if t = σ.tk then S.β (.loc k) else S.τ t); rw [if_pos (by omega)]; exact h.new k (by rw [hk]; rfl))
 show C.S0.w.heap.size ≤ S.β (.loc i)
 have hik : i ≠ k := fun e => by subst e; rw [look_dele, if_pos rfl] at hi; cases hi
 refine h.new i ?_
 rw [hl i hik, look_subO] at hi
 cases hq : look i σ.l with
 | none => rw [hq] at hi; cases hi
 | some _ => rfl

theorem At.dropL {C : Ctx} {σ : St} {a : Act} {w : World} {S : Sit} (h : At C σ a w S) {k : Nat} {o : Obj} (hk : look k σ.l = some o) :
  ∃ S', At C ⟨subE k .jnk σ.env, dele k (subO k .jnk σ.l), σ.b, σ.O, σ.tk⟩ a w S' ∧ S'.w = S.w ∧ S'.β = S.β ∧ Le S S' ∧ S'.con (S.β (.loc k)) := by
 have hwS := h.w
 subst hwS
 have hSk : S.O (.loc k) = some o := by rw [h.O]; exact hk
 let r : AV := .jnk
 let σ' : St := ⟨subE k r σ.env, dele k (subO k r σ.l), σ.b, σ.O, σ.tk⟩
 let S' : Sit := { S with O := C.heap σ' }
 have hl : ∀ i, i ≠ k → look i (dele k (subO k r σ.l)) = look i (subO k r σ.l) := fun i hi => by rw [look_dele, if_neg hi]
 have hheap := fun (x : ID) (hx : x ≠ .loc k) (o : Obj) => heap_sub (C := C) (σ := σ) (k := k) (r := r) (l' := dele k (subO k r σ.l)) (tk' := σ.tk) hl hx (o := o)
 have hSk' : S'.O (.loc k) = none := by show look k (dele k (subO k r σ.l)) = none; rw [look_dele, if_pos rfl]
 have hlive : ∀ b, S'.live b → S.live b ∧ b ≠ S.β (.loc k) := by
  rintro b ⟨x, hx, rfl⟩
  have hxk : x ≠ .loc k := fun e => by rw [e, hSk'] at hx; cases hx
  have hxs : (S.O x).isSome = true := by
   cases hq : S.O x with
   | none => rw [h.O] at hq; have := (hheap x hxk o).2 hq; rw [show S'.O x = C.heap σ' x from rfl, this] at hx; cases hx
   | some _ => rfl
  exact ⟨⟨x, hxs, rfl⟩, fun e => hxk (h.sim.inj x _ hxs (by rw [hSk]; rfl) e)⟩
 have htk : S.tk = σ.tk := h.tk
 have hle : Le S S' := ⟨Nat.le_refl _, rfl, rfl, rfl, rfl, Nat.le_refl _, fun _ _ => rfl, fun b hb => ⟨⟨hb.1, fun hl => hb.2 (hlive b hl).1⟩, rfl⟩⟩
 have hrow : ∀ u, Rep S (.osl (.loc k)) u → Rep S' r u := by
  intro u hu
  obtain ⟨_, _, _, _, _, _, _, _, _, rfl⟩ := rep_osl hu
  exact .jnk _ rfl
 have hgone : Gone S S' k r := ⟨hle, fun x ox hx hxk => by
  rw [h.O] at hx
  obtain ⟨o', r1, r2, r3, r4, r5, _, _⟩ := (hheap x hxk ox).1 hx
  exact ⟨o', r1, r2, r3, r4, rfl, r5, fun c hc => ⟨c, hc, rfl⟩⟩, hrow, fun x z hx => ⟨hx, rfl⟩, rfl⟩
 have hsim : SimH S' := by
  refine ⟨fun x ox hx => ?_, fun x y hx hy hxy => ?_, fun x hx => ?_, fun t h1 h2 => ?_, h.sim.tinj, h.sim.b0, fun x z hx => ?_, h.sim.tk2⟩
  ·have hxk : x ≠ .loc k := fun e => by rw [e, hSk'] at hx; cases hx
   have hxs : ∃ oo, S.O x = some oo := by
    cases hq : S.O x with
    | none => rw [h.O] at hq; have := (hheap x hxk o).2 hq; rw [show S'.O x = C.heap σ' x from rfl, this] at hx; cases hx
    | some oo => exact ⟨oo, rfl⟩
   obtain ⟨oo, hoo⟩ := hxs
   obtain ⟨o', r1, r2, r3, r4, r5, r6, r7⟩ := (hheap x hxk oo).1 (by rw [← h.O]; exact hoo)
   rw [show S'.O x = C.heap σ' x from rfl, r1] at hx
   cases hx
   obtain ⟨c, p1, p2, p3, p4, p5⟩ := h.sim.obj x oo hoo
   refine ⟨c, by rw [r2]; exact p1, by rw [r3, r5]; exact p2, fun hbx => by rw [r5, r3]; exact p3 (by rw [← r4]; exact hbx), ?_, fun i e j v hi hj => ?_⟩
   ·intro e he
    rw [r3]
    cases hbx : oo.box with
    | false => rw [r6 hbx] at he; exact p4 e he
    | true =>
     obtain ⟨i, hi⟩ := List.mem_iff_getElem?.1 he
     -- its length is its elder's
     obtain ⟨e0, he0⟩ : ∃ e0, oo.es[i]? = some e0 := ⟨_, List.getElem?_eq_getElem (by rw [← r5]; exact (List.getElem?_eq_some_iff.1 hi).1)⟩
     have hlen := p4 e0 (List.mem_of_getElem? he0)
     -- by the form of the substitution
     cases x with
     | loc n =>
      have hnk : n ≠ k := fun e => hxk (by rw [e])
      have hoo' : look n σ.l = some oo := by rw [h.O] at hoo; exact hoo
      have : look n (dele k (subO k r σ.l)) = some ox := r1
      rw [hl n hnk, look_subO, hoo'] at this
      cases this
      simp only [Obj.sub, hbx, if_true, List.getElem?_map, he0, Option.map_some, Option.some.injEq] at hi
      rw [← hi, subL_length]; exact hlen
     | bor n =>
      have hoo' : C.heap σ (.bor n) = some oo := by rw [← h.O]; exact hoo
      have : C.heap σ (.bor n) = some ox := r1
      rw [hoo'] at this; cases this
      exact p4 e he
     | up n =>
      have hoo' : C.heap σ (.up n) = some oo := by rw [← h.O]; exact hoo
      have : C.heap σ (.up n) = some ox := r1
      rw [hoo'] at this; cases this
      exact p4 e he
   rw [r3]
   cases hbx : oo.box with
   | false =>
    have := r6 hbx
    subst this
    obtain ⟨s1, u, s2, s3, s4⟩ := p5 i e j v hi hj
    exact ⟨s1, u, s2, .clo ((s4 hbx).le hle), fun _ => (s4 hbx).le hle⟩
   | true =>
    obtain ⟨e0, v0, t1, t2, rfl⟩ := r7 i e j v hi hj hbx
    obtain ⟨s1, u, s2, s3, s4⟩ := p5 i e0 j v0 t1 t2
    have := cell_gone hgone s3 s1
    exact ⟨this.2, u, s2, this.1, fun hf => by rw [r4, hbx] at hf; cases hf⟩
  ·obtain ⟨h1, _⟩ := hlive _ ⟨x, hx, rfl⟩
   have f : ∀ x, (S'.O x).isSome = true → (S.O x).isSome = true := fun x hx => by
    have hxk : x ≠ .loc k := fun e => by rw [e, hSk'] at hx; cases hx
    cases hq : S.O x with
    | none => rw [h.O] at hq; have := (hheap x hxk o).2 hq; rw [show S'.O x = C.heap σ' x from rfl, this] at hx; cases hx
    | some _ => rfl
   exact h.sim.inj x y (f x hx) (f y hy) hxy
  ·have hxk : x ≠ .loc k := fun e => by rw [e, hSk'] at hx; cases hx
   refine h.sim.base x ?_
   cases hq : S.O x with
   | none => rw [h.O] at hq; have := (hheap x hxk o).2 hq; rw [show S'.O x = C.heap σ' x from rfl, this] at hx; cases hx
   | some _ => rfl
  ·obtain ⟨s1, s2, s3⟩ := h.sim.tok t h1 (by have := h.tk; show t < S.tk; exact h2)
   exact ⟨s1, fun hl => s2 (hlive _ hl).1, s3⟩
  have hx' := h.sim.hid x z hx
  rw [h.O] at hx'
  exact (hheap x (fun e => by subst e; rw [show S'.hid = S.hid from rfl, h.hl k] at hx; cases hx) o).2 hx'
 refine ⟨S', ⟨rfl, rfl, h.tk, hsim, fun i v hv => ?_, h.nt, h.defers, ?_, fun i hi => ?_, h.bl, h.nd, h.bb, h.h0, h.hl, h.hu, h.hv, h.hf, h.inv⟩, rfl, rfl, hle, ⟨h.sim.lt hSk, fun hl => (hlive _ hl).2 rfl⟩⟩
 ·rw [look_subE] at hv
  obtain ⟨v0, hv0, rfl⟩ := Option.map_eq_some_iff.1 hv
  obtain ⟨u, hu, hr⟩ := h.env i v0 hv0
  exact ⟨u, hu, hr.gone hgone⟩
 ·exact h.ext.own rfl rfl rfl rfl (Nat.le_refl _) (fun _ _ => rfl) rfl rfl rfl (Nat.le_refl _) (fun x o hx => h.h0.lt hx) (fun _ _ => rfl) (fun t h1 h2 => absurd h1 (Nat.not_le_of_lt h2))
 show C.S0.w.heap.size ≤ S.β (.loc i)
 have hik : i ≠ k := fun e => by subst e; rw [look_dele, if_pos rfl] at hi; cases hi
 refine h.new i ?_
 rw [hl i hik, look_subO] at hi
 cases hq : look i σ.l with
 | none => rw [hq] at hi; cases hi
 | some _ => rfl

theorem At.drop {C : Ctx} {σ : St} {a : Act} {w : World} {S : Sit} (h : At C σ a w S) {k : Nat} {o : Obj} (hk : look k σ.l = some o) :
  ∃ S', At C ⟨subE k .jnk σ.env, dele k (subO k .jnk σ.l), σ.b, σ.O, σ.tk⟩ a w S' ∧ S'.w = S.w ∧ S'.β = S.β :=
 let ⟨S', h1, h2, h3, _⟩ := h.dropL hk
 ⟨S', h1, h2, h3⟩

end Go.Am

/- The abstract memory logic, thirteenth part: append. -/
namespace Go.Am
open Go

theorem At.turn {C : Ctx} {σ : St} {a : Act} {S : Sit} (h : At C σ a S.w S) {k : Nat} {o : Obj} (hk : look k σ.l = some o) (hb : o.box = false) (es' : List (List AV)) (hes : ∀ e ∈ es', e.length = o.sz)
  (w' : World) (g' : Nat) (cur' : Array Value) (c' : Nat) (hg : w'.heap[g']? = some (.cells cur' o.ty (0, 0))) (hgn : g' = S.β (.loc k) ∨ S.w.heap.size ≤ g') (hcs : cur'.size = c' * o.sz) (hel : es'.length ≤ c') (hcm : c' ≤ maxLen)
  (hold : ∀ b, b < S.w.heap.size → b ≠ S.β (.loc k) → w'.heap[b]? = S.w.heap[b]?) (hsz : S.w.heap.size ≤ w'.heap.size) (hos : w'.os = S.w.os) (htp : w'.tape = S.w.tape) (hou : w'.output = S.w.output)
  (hc : ∀ (i : Nat) (e : List AV) (j : Nat) (v : AV), es'[i]? = some e → e[j]? = some v → v.d1 = true ∧ ∃ u, cur'[i * o.sz + j]? = some u ∧ RepC S v u) :
  ∃ S', At C ⟨subE k .jnk σ.env, setl k { o with es := es' } (subO k .jnk σ.l), σ.b, σ.O, σ.tk⟩ a w' S' ∧ Rep S' (.osl (.loc k)) (.slice (some ⟨g', 0, none⟩) es'.length c') ∧ KeepW S S' [.loc k] := by
 have hSk : S.O (.loc k) = some o := by rw [h.O]; exact hk
 let o1 : Obj := { o with es := es' }
 let l1 := setl k o1 (subO k .jnk σ.l)
 let σ' : St := ⟨subE k .jnk σ.env, l1, σ.b, σ.O, σ.tk⟩
 let S' : Sit := { S with w := w', β := fun x => if x = .loc k then g' else S.β x, O := C.heap σ' }
 have hks : (look k (subO k .jnk σ.l)).isSome = true := by rw [look_subO, hk]; rfl
 have hl : ∀ i, i ≠ k → look i l1 = look i (subO k .jnk σ.l) := fun i hi => by show look i (setl k o1 _) = _; rw [look_setl hks, if_neg hi]
 have hheap := fun (x : ID) (hx : x ≠ .loc k) (ox : Obj) => heap_sub (C := C) (σ := σ) (k := k) (r := .jnk) (l' := l1) (tk' := σ.tk) hl hx (o := ox)
 have hSk' : S'.O (.loc k) = some o1 := by show look k (setl k o1 _) = _; rw [look_setl hks, if_pos rfl]
 have hβn : ∀ x, x ≠ .loc k → S'.β x = S.β x := fun x hx => if_neg hx
 have hβk : S'.β (.loc k) = g' := if_pos rfl
 have back : ∀ x, x ≠ .loc k → (S'.O x).isSome = true → (S.O x).isSome = true := fun x hxk hx => by
  cases hq : S.O x with
  | none => rw [h.O] at hq; have := (hheap x hxk o).2 hq; rw [show S'.O x = C.heap σ' x from rfl, this] at hx; cases hx
  | some _ => rfl
 have hlive : ∀ b, b < S.w.heap.size → S'.live b → S.live b := by
  rintro b hb ⟨x, hx, rfl⟩
  by_cases hxk : x = .loc k
  ·subst hxk
   rw [hβk] at hb ⊢
   rcases hgn with rfl | hgn
   ·exact ⟨_, by rw [hSk]; rfl, rfl⟩
   omega
  exact ⟨x, back x hxk hx, (hβn x hxk).symm⟩
 have hle : Le S S' := ⟨hsz, hos, htp, hou, rfl, Nat.le_refl _, fun _ _ => rfl, fun b hb => ⟨⟨Nat.lt_of_lt_of_le hb.1 hsz, fun hl => hb.2 (hlive b hb.1 hl)⟩, hold b hb.1 fun e => hb.2 ⟨_, by rw [hSk]; rfl, e.symm⟩⟩⟩
 have hne : ∀ x ox, S.O x = some ox → x ≠ .loc k → S.β x ≠ S.β (.loc k) := fun x ox hx hxk e => hxk (h.sim.inj x _ (by rw [hx]; rfl) (by rw [hSk]; rfl) e)
 have hgone : Gone S S' k .jnk := ⟨hle, fun x ox hx hxk => by
  obtain ⟨o', r1, r2, r3, r4, r5, _, _⟩ := (hheap x hxk ox).1 (by rw [← h.O]; exact hx)
  refine ⟨o', r1, r2, r3, r4, hβn x hxk, r5, fun c hc => ⟨c, ?_, rfl⟩⟩
  show w'.heap[S.β x]? = _
  rw [hold _ (h.sim.lt hx) (hne x ox hx hxk)]
  exact hc, fun u hu => .jnk u (by obtain ⟨_, _, _, _, _, _, _, _, _, rfl⟩ := rep_osl hu; rfl), fun x z hx => ⟨hx, hβn x fun e => by subst e; rw [h.hl k] at hx; cases hx⟩, rfl⟩
 have hsim : SimH S' := by
  refine ⟨fun x ox hx => ?_, fun x y hx hy hxy => ?_, fun x hx => ?_, fun t h1 h2 => ?_, h.sim.tinj, Nat.le_trans h.sim.b0 hsz, fun x z hx => ?_, h.sim.tk2⟩
  ·by_cases hxk : x = .loc k
   ·subst hxk
    rw [hSk'] at hx
    cases hx
    rw [hβk]
    refine ⟨cur', hg, ?_, (fun hbx => by rw [show o1.box = o.box from rfl, hb] at hbx; cases hbx), hes, fun i e j v hi hj => ?_⟩
    ·show es'.length * o.sz ≤ cur'.size
     rw [hcs]; exact Nat.mul_le_mul_right _ hel
    obtain ⟨s1, u, s2, s3⟩ := hc i e j v hi hj
    exact ⟨s1, u, s2, .clo (s3.le hle), fun _ => s3.le hle⟩
   have hxs := back x hxk (by rw [hx]; rfl)
   obtain ⟨oo, hoo⟩ := Option.isSome_iff_exists.1 hxs
   obtain ⟨o', r1, r2, r3, r4, r5, r6, r7⟩ := (hheap x hxk oo).1 (by rw [← h.O]; exact hoo)
   rw [show S'.O x = C.heap σ' x from rfl, r1] at hx
   cases hx
   obtain ⟨c, p1, p2, p3, p4, p5⟩ := h.sim.obj x oo hoo
   rw [hβn x hxk]
   refine ⟨c, ?_, by rw [r3, r5]; exact p2, fun hbx => by rw [r5, r3]; exact p3 (by rw [← r4]; exact hbx), ?_, fun i e j v hi hj => ?_⟩
   ·show w'.heap[S.β x]? = _
    rw [hold _ (h.sim.lt hoo) (hne x oo hoo hxk), r2]; exact p1
   ·intro e he
    rw [r3]
    cases hbx : oo.box with
    | false => rw [r6 hbx] at he; exact p4 e he
    | true =>
     obtain ⟨i, hi⟩ := List.mem_iff_getElem?.1 he
     obtain ⟨e0, he0⟩ : ∃ e0, oo.es[i]? = some e0 := ⟨_, List.getElem?_eq_getElem (by rw [← r5]; exact (List.getElem?_eq_some_iff.1 hi).1)⟩
     have hlen := p4 e0 (List.mem_of_getElem? he0)
     cases x with
     | loc n =>
      have hnk : n ≠ k := fun e => hxk (by rw [e])
      have hoo' : look n σ.l = some oo := by rw [h.O] at hoo; exact hoo
      have : look n l1 = some ox := r1
      rw [hl n hnk, look_subO, hoo'] at this
      cases this
      simp only [Obj.sub, hbx, if_true, List.getElem?_map, he0, Option.map_some, Option.some.injEq] at hi
      rw [← hi, subL_length]; exact hlen
     | bor n =>
      have hoo' : C.heap σ (.bor n) = some oo := by rw [← h.O]; exact hoo
      have : C.heap σ (.bor n) = some ox := r1
      rw [hoo'] at this; cases this
      exact p4 e he
     | up n =>
      have hoo' : C.heap σ (.up n) = some oo := by rw [← h.O]; exact hoo
      have : C.heap σ (.up n) = some ox := r1
      rw [hoo'] at this; cases this
      exact p4 e he
   rw [r3]
   cases hbx : oo.box with
   | false =>
    have := r6 hbx
    subst this
    obtain ⟨s1, u, s2, s3, s4⟩ := p5 i e j v hi hj
    exact ⟨s1, u, s2, .clo ((s4 hbx).le hle), fun _ => (s4 hbx).le hle⟩
   | true =>
    obtain ⟨e0, v0, t1, t2, rfl⟩ := r7 i e j v hi hj hbx
    obtain ⟨s1, u, s2, s3, s4⟩ := p5 i e0 j v0 t1 t2
    have := cell_gone hgone s3 s1
    exact ⟨this.2, u, s2, this.1, fun hf => by rw [r4, hbx] at hf; cases hf⟩
  ·by_cases hxk : x = .loc k <;> by_cases hyk : y = .loc k
   ·rw [hxk, hyk]
   ·subst hxk
    rw [hβk, hβn y hyk] at hxy
    obtain ⟨oy, hoy⟩ := Option.isSome_iff_exists.1 (back y hyk hy)
    rcases hgn with e | hgn
    ·exact absurd (by rw [← hxy, e]) (hne y oy hoy hyk)
    have := h.sim.lt hoy; omega
   ·subst hyk
    rw [hβk, hβn x hxk] at hxy
    obtain ⟨ox, hox⟩ := Option.isSome_iff_exists.1 (back x hxk hx)
    rcases hgn with e | hgn
    ·exact absurd (by rw [hxy, e]) (hne x ox hox hxk)
    have := h.sim.lt hox; omega
   rw [hβn x hxk, hβn y hyk] at hxy
   exact h.sim.inj x y (back x hxk hx) (back y hyk hy) hxy
  ·by_cases hxk : x = .loc k
   ·subst hxk
    rw [hβk]
    rcases hgn with rfl | hgn
    ·exact h.sim.base _ (by rw [hSk]; rfl)
    exact Nat.le_trans h.sim.b0 hgn
   rw [hβn x hxk]; exact h.sim.base x (back x hxk hx)
  ·obtain ⟨s1, s2, s3⟩ := h.sim.tok t h1 h2
   exact ⟨Nat.lt_of_lt_of_le s1 hsz, fun hl => s2 (hlive _ s1 hl), s3⟩
  have hx' := h.sim.hid x z hx
  rw [h.O] at hx'
  exact (hheap x (fun e => by subst e; rw [show S'.hid = S.hid from rfl, h.hl k] at hx; cases hx) o).2 hx'
 have hnewk : C.S0.w.heap.size ≤ g' := by
  rcases hgn with rfl | hgn
  ·exact h.new k (by rw [hk]; rfl)
  exact Nat.le_trans h.ext.size hgn
 refine ⟨S', ⟨rfl, rfl, h.tk, hsim, fun i v hv => ?_, h.nt, h.defers, ?_, fun i hi => ?_, h.bl, h.nd, fun i x hx => ?_, h.h0, h.hl, h.hu, h.hv, h.hf, h.inv⟩, ?_, ⟨⟨hsz, fun b hbb hx => hold b hbb fun e => hx _ (List.mem_singleton.2 rfl) e.symm⟩, fun x hx => ?_⟩⟩
 ·rw [look_subE] at hv
  obtain ⟨v0, hv0, rfl⟩ := Option.map_eq_some_iff.1 hv
  obtain ⟨u, hu, hr⟩ := h.env i v0 hv0
  exact ⟨u, hu, hr.gone hgone⟩
 ·refine h.ext.own rfl (funext fun x => hβn (.up x) fun e => by cases e) rfl rfl (Nat.le_refl _) (fun _ _ => rfl) hos htp hou hsz (fun x o hx => h.h0.lt hx) (fun b hbb => ?_) (fun t h1 h2 => absurd h1 (Nat.not_le_of_lt h2))
  exact hold b (Nat.lt_of_lt_of_le hbb h.ext.size) fun e => by have := h.new k (by rw [hk]; rfl); omega
 ·by_cases hik : i = k
  ·subst hik; rw [hβk]; exact hnewk
  rw [hβn (.loc i) fun e => hik (by cases e; rfl)]
  refine h.new i ?_
  rw [hl i hik, look_subO] at hi
  cases hq : look i σ.l with
  | none => rw [hq] at hi; cases hi
  | some _ => rfl
 ·rw [hβn (.bor i) (fun e => by cases e), hβn (.up x) (fun e => by cases e)]
  exact h.bb i x hx
 ·have := Rep.osl (S := S') (.loc k) o1 c' cur' hSk' hb (by rw [hβk]; exact hg) hcs hel hcm
  rw [hβk] at this
  exact this
 by_cases hxk : x = .loc k
 ·subst hxk; exact ⟨by rw [hSk']; rfl, by rw [hβk]; exact hgn⟩
 obtain ⟨ox, hox⟩ := Option.isSome_iff_exists.1 hx
 obtain ⟨o', r1, _⟩ := (hheap x hxk ox).1 (by rw [← h.O]; exact hox)
 exact ⟨by rw [show S'.O x = C.heap σ' x from rfl, r1]; rfl, .inl (hβn x hxk)⟩

def elems (σ : St) : AV → Option (List (List AV))
 | .imm _ _ _ es => some es
 | .osl (.loc k) => match look k σ.l with
  | some o => match o.box with
   | false => some o.es
   | true => none
  | none => none
 | _ => none

theorem elems_rep {C : Ctx} {σ : St} {a : Act} {w : World} {S : Sit} (hat : At C σ a w S) {p : AV} {u : Value} {es : List (List AV)} {sz : Nat} (hp : Rep S p u) (h : elems σ p = some es) (hsz : ∀ e ∈ es, e.length = sz) :
  ∃ (ad : Option Addr) (c : Nat) (f : Nat → Nat → Value), u = .slice ad es.length c ∧ es.length ≤ c ∧ c ≤ maxLen ∧ (es ≠ [] → ∃ b off, ad = some ⟨b, off, none⟩ ∧
   ∀ (i : Nat) (e : List AV) (j : Nat) (x : AV), es[i]? = some e → e[j]? = some x → x.d1 = true ∧ w.cell? ⟨b, off + (i * sz + j), none⟩ = some (f i j) ∧ RepC S x (f i j)) := by
 have hw := hat.w
 subst hw
 unfold elems at h
 split at h
 ·rename_i tok sz' full es'
  cases h
  have hr := rep_imm hp
  cases hr with
  | imm0 _ _ _ ad c hf hm => exact ⟨ad, c, fun _ _ => undef, rfl, Nat.zero_le _, hm, fun h => absurd rfl h⟩
  | imm _ _ _ _ b off c us hne hc hl hm hf ht h0 hsz' hs h1 h2 =>
   refine ⟨some ⟨b, off, none⟩, c, us, rfl, hl, hm, fun _ => ⟨b, off, rfl, fun i e j x hi hj => ⟨hs i e j x hi hj, ?_, h2 i e j x hi hj⟩⟩⟩
   have : sz = sz' := by rw [← hsz e (List.mem_of_getElem? hi), hsz' e (List.mem_of_getElem? hi)]
   subst this
   exact h1 i e j x hi hj
 ·rename_i k
  split at h
  ·rename_i o ho
   split at h
   ·rename_i hb
    cases h
    obtain ⟨o', c, cur, ho', hb', hw', hc, hl, hm, rfl⟩ := rep_osl hp
    have hSo : S.O (.loc k) = some o := by rw [hat.O]; exact ho
    rw [hSo] at ho'
    cases ho'
    obtain ⟨cur', q1, q2, q3, q4, q5⟩ := hat.sim.obj _ _ hSo
    rw [hw'] at q1
    cases q1
    refine ⟨_, c, fun i j => cur.getD (i * o.sz + j) undef, rfl, hl, hm, fun _ => ⟨S.β (.loc k), 0, rfl, fun i e j x hi hj => ?_⟩⟩
    have : sz = o.sz := by rw [← hsz e (List.mem_of_getElem? hi), q4 e (List.mem_of_getElem? hi)]
    subst this
    obtain ⟨s1, v, s2, s3, s4⟩ := q5 i e j x hi hj
    have hlt := (Array.getElem?_eq_some_iff.1 s2).1
    have hv : cur.getD (i * o.sz + j) undef = v := by simp [s2]
    refine ⟨s1, ?_, by simp only [hv]; exact s4 hb⟩
    rw [Nat.zero_add]
    simp [World.cell?, hw', Array.getD, hlt]
   cases h
  cases h
 cases h

end Go.Am

/- The abstract memory logic, fourteenth part: the operations append, buildSlice, makeSlice, and slicing. -/
namespace Go.Am
open Go

def flat (n sz : Nat) (f : Nat → Nat → Value) : List Value := (List.range (n * sz)).map fun k => f (k / sz) (k % sz)

theorem flat_length (n sz : Nat) (f : Nat → Nat → Value) : (flat n sz f).length = n * sz := by simp [flat]
theorem flat_get {n sz : Nat} {f : Nat → Nat → Value} {i j : Nat} (hi : i < n) (hj : j < sz) : (flat n sz f)[i * sz + j]? = some (f i j) := by
 have hlt : i * sz + j < n * sz := by
  have := Nat.mul_le_mul_right sz (show i + 1 ≤ n from hi)
  rw [Nat.add_mul, Nat.one_mul] at this
  omega
 have h1 : (i * sz + j) / sz = i := by rw [Nat.mul_comm, Nat.mul_add_div (by omega)]; simp [Nat.div_eq_of_lt hj]
 have h2 : (i * sz + j) % sz = j := by rw [Nat.mul_comm, Nat.mul_add_mod]; exact Nat.mod_eq_of_lt hj
 simp [flat, hlt, h1, h2]
theorem flat_of {n sz : Nat} {f : Nat → Nat → Value} {k : Nat} {u : Value} (h : (flat n sz f)[k]? = some u) : k < n * sz ∧ u = f (k / sz) (k % sz) := by
 have hlt : k < n * sz := by have := (List.getElem?_eq_some_iff.1 h).1; rwa [flat_length] at this
 refine ⟨hlt, ?_⟩
 simp [flat, hlt] at h
 exact h.symm

theorem div_lt {k n sz : Nat} (h : k < n * sz) : k / sz < n ∧ k % sz < sz := by
 have hs : 0 < sz := by
  rcases Nat.eq_zero_or_pos sz with rfl | h'
  ·simp at h
  exact h'
 exact ⟨(Nat.div_lt_iff_lt_mul hs).2 h, Nat.mod_lt _ hs⟩

theorem cell_at (es : List (List AV)) {sz : Nat} (hes : ∀ e ∈ es, e.length = sz) {i j : Nat} (hi : i < es.length) (hj : j < sz) : ∃ e v, es[i]? = some e ∧ e[j]? = some v :=
 ⟨es[i], (es[i])[j]'(by rw [hes _ (List.getElem_mem hi)]; exact hj), List.getElem?_eq_getElem hi, List.getElem?_eq_getElem _⟩

theorem app_get {es es2 : List (List AV)} {sz : Nat} {f g : Nat → Nat → Value} (hes : ∀ e ∈ es, e.length = sz) (hes2 : ∀ e ∈ es2, e.length = sz) {i : Nat} {e : List AV} {j : Nat} {v : AV}
  (hi : (es ++ es2)[i]? = some e) (hj : e[j]? = some v) :
  (i < es.length ∧ es[i]? = some e ∧ (flat es.length sz f ++ flat es2.length sz g)[i * sz + j]? = some (f i j)) ∨
  (es.length ≤ i ∧ es2[i - es.length]? = some e ∧ (flat es.length sz f ++ flat es2.length sz g)[i * sz + j]? = some (g (i - es.length) j)) := by
 have hjs : j < sz := by
  have hm := List.mem_of_getElem? hi
  rw [List.mem_append] at hm
  rw [← hm.elim (hes e) (hes2 e)]
  exact (List.getElem?_eq_some_iff.1 hj).1
 by_cases h : i < es.length
 ·refine .inl ⟨h, by rw [List.getElem?_append_left h] at hi; exact hi, ?_⟩
  rw [List.getElem?_append_left (by rw [flat_length]; have := Nat.mul_le_mul_right sz (show i + 1 ≤ es.length from h); rw [Nat.add_mul, Nat.one_mul] at this; omega)]
  exact flat_get h hjs
 have h' : es.length ≤ i := Nat.le_of_not_lt h
 have hi2 : i - es.length < es2.length := by have := (List.getElem?_eq_some_iff.1 hi).1; simp at this; omega
 refine .inr ⟨h', by rw [List.getElem?_append_right h'] at hi; exact hi, ?_⟩
 have hm : es.length * sz ≤ i * sz := Nat.mul_le_mul_right sz h'
 rw [List.getElem?_append_right (by rw [flat_length]; omega), flat_length, show i * sz + j - es.length * sz = (i - es.length) * sz + j by rw [Nat.sub_mul]; omega]
 exact flat_get hi2 hjs

theorem append_step {C : Ctx} {Γ : TTab} (hG : GOK C.P Γ) {σ : St} {op : Oper} {T e : TypeId} {x y : Operand} (ho : op.op = .call { callee := .builtin .append, args := #[x, y], argTypes := #[T, T] })
  {i ie : TI} (hT : look T Γ = some i) (hd : i.desc = .slice e) (he : look e Γ = some ie) {k : Nat} {o : Obj} {q : AV} {es2 : List (List AV)} (hx : oev σ.env x = some (.osl (.loc k))) (hy : oev σ.env y = some q)
  (hk : look k σ.l = some o) (hb : o.box = false) (hty : o.ty = e) (hsz : o.sz = ie.size) (hq : elems σ q = some es2) (hes2 : ∀ e ∈ es2, e.length = ie.size)
  (hlen : (o.es.length + es2.length) * ie.bytes ≤ 140737488355328) (hm : o.es.length + es2.length ≤ 140737488355328) :
  Step C [.loc k] op σ (.osl (.loc k)) ⟨subE k .jnk σ.env, setl k { o with es := o.es ++ es2 } (subO k .jnk σ.l), σ.b, σ.O, σ.tk⟩ := by
 intro a w S hat
 have hwS := hat.w
 subst hwS
 have hU := (hG T i hT).und
 rw [hd] at hU
 have hE := hG e ie he
 obtain ⟨ti, z, z1, z2, z3, z4, z5, z6⟩ := zero_rep hE S
 have hSo : S.O (.loc k) = some o := by rw [hat.O]; exact hk
 obtain ⟨cur, q1, q2, q3, q4, q5⟩ := hat.sim.obj _ _ hSo
 obtain ⟨o', c, cur', ho', hb', hw', hc, hl, hcm, hu⟩ := rep_osl (oev_rep hat hx)
 rw [hSo] at ho'
 cases ho'
 rw [q1] at hw'
 cases hw'
 obtain ⟨ad, c2, g, hu2, hl2, hm2, hcell⟩ := elems_rep hat (oev_rep hat hy) hq hes2
 have hoes : ∀ e ∈ o.es, e.length = ie.size := fun e he => by rw [← hsz]; exact q4 e he
 have hall : ∀ e ∈ o.es ++ es2, e.length = o.sz := fun e he => by
  rw [hsz]
  rcases List.mem_append.1 he with h | h
  ·exact hoes e h
  exact hes2 e h
 let f : Nat → Nat → Value := fun i j => cur.getD (i * o.sz + j) undef
 have hf : ∀ (i : Nat) (e : List AV) (j : Nat) (v : AV), o.es[i]? = some e → e[j]? = some v → v.d1 = true ∧ cur[i * o.sz + j]? = some (f i j) ∧ RepC S v (f i j) := by
  intro i e j v hi hj
  obtain ⟨s1, u, s2, s3, s4⟩ := q5 i e j v hi hj
  have : f i j = u := by simp [f, s2]
  exact ⟨s1, by rw [this]; exact s2, by rw [this]; exact s4 hb⟩
 have hmax : ∀ n, n ≤ 140737488355328 → n ≤ maxLen := fun n h => Nat.le_trans h (by unfold maxLen; decide)
 cases hes : es2 with
 | nil =>
  subst hes
  obtain ⟨S', hat', hrep, hkp⟩ := hat.turn hk hb (o.es ++ []) hall S.w (S.β (.loc k)) cur c q1 (.inl rfl) hc (by simpa using hl) hcm (fun _ _ _ => rfl) (Nat.le_refl _) rfl rfl rfl (fun i e j v hi hj => by
   rw [List.append_nil] at hi
   obtain ⟨s1, s2, s3⟩ := hf i e j v hi hj
   exact ⟨s1, _, s2, s3⟩)
  refine ⟨_, _, S', .inl ?_, hat', hrep, hkp⟩
  unfold execOp
  simp only [ho, resolve, invoke, builtin, Sem.run_bind, Sem.run_pure, Result.andThen_ok, List.map_toArray, List.map_cons, List.map_nil, hu, hu2]
  cases ad <;> simp [Builtin.append_, run_underlying hU, sizeOf, typeInfo, z1, Builtin.lenOf, hl, Builtin.firstCells, loadCells, loadCellsFrom, storeCells]
 | cons e0 r0 =>
  have hne : es2 ≠ [] := by rw [hes]; exact fun h => by cases h
  rw [← hes]
  clear hes
  obtain ⟨b, off, rfl, hcells⟩ := hcell hne
  have hpos : 0 < es2.length := List.length_pos_iff.2 hne
  have hnews : ∀ (j : Nat) (u : Value), (flat es2.length ie.size g)[j]? = some u → S.w.cell? ((⟨b, off, none⟩ : Addr).add j) = some u := by
   intro j u hj
   obtain ⟨h1, rfl⟩ := flat_of hj
   obtain ⟨d1, d2⟩ := div_lt h1
   obtain ⟨e, v, he1, hv1⟩ := cell_at es2 hes2 d1 d2
   rw [add_off]
   have := (hcells _ e _ v he1 hv1).2.1
   rwa [show j / ie.size * ie.size + j % ie.size = j by rw [Nat.mul_comm]; exact Nat.div_add_mod j ie.size] at this
  by_cases hroom : o.es.length + es2.length ≤ c
  ·-- there is room
   have hfit : o.es.length * ti.size + (flat es2.length ie.size g).length ≤ cur.size := by
    rw [flat_length, hc, z2, hsz, ← Nat.add_mul]; exact Nat.mul_le_mul_right _ hroom
   have h1 : ∀ u ∈ flat es2.length ie.size g, u.oneCell' = true := by
    intro u hu
    obtain ⟨j, hj⟩ := List.mem_iff_getElem?.1 hu
    obtain ⟨h1, rfl⟩ := flat_of hj
    obtain ⟨d1, d2⟩ := div_lt h1
    obtain ⟨e, v, he1, hv1⟩ := cell_at es2 hes2 d1 d2
    obtain ⟨t1, _, t3⟩ := hcells _ e _ v he1 hv1
    exact d1_one (.clo t3) t1
   have hrun := run_append_room (P := C.P) S.w T op.type e ti hU z1 (S.β (.loc k)) o.es.length c cur (by rw [← hty]; exact q1) ⟨b, off, none⟩ es2.length c2 (flat es2.length ie.size g) (by rw [flat_length, z2]) hnews h1 hroom hfit
   rw [z2] at hrun
   have hfit' : o.es.length * ie.size + (flat es2.length ie.size g).length ≤ cur.size := by have := hfit; rw [z2] at this; exact this
   obtain ⟨p1, p2⟩ := put_cells cur (o.es.length * ie.size) (flat es2.length ie.size g) hfit'
   obtain ⟨S', hat', hrep, hkp⟩ := hat.turn hk hb (o.es ++ es2) hall _ (S.β (.loc k)) _ c (setRow_heap S.w _ cur _ _ _ q1) (.inl rfl) (by rw [p1]; exact hc) (by simpa using hroom) hcm (fun b' _ hb' => setRow_other S.w _ b' _ hb') (by simp) rfl rfl rfl (fun i e j v hi hj => by
    rw [p2]
    have hjs : j < ie.size := by rw [← hsz, ← hall e (List.mem_of_getElem? hi)]; exact (List.getElem?_eq_some_iff.1 hj).1
    rcases app_get (f := f) (g := g) hoes hes2 hi hj with ⟨t1, t2, _⟩ | ⟨t1, t2, t3⟩
    ·have hml := Nat.mul_le_mul_right ie.size (show i + 1 ≤ o.es.length from t1)
     rw [Nat.add_mul, Nat.one_mul] at hml
     rw [if_neg (by rw [hsz]; omega)]
     obtain ⟨s1, s2, s3⟩ := hf i e j v t2 hj
     exact ⟨s1, _, s2, s3⟩
    have hml : o.es.length * ie.size ≤ i * ie.size := Nat.mul_le_mul_right _ t1
    have hi2 : i - o.es.length < es2.length := (List.getElem?_eq_some_iff.1 t2).1
    have hml2 := Nat.mul_le_mul_right ie.size (show i - o.es.length + 1 ≤ es2.length from hi2)
    rw [Nat.add_mul, Nat.one_mul, Nat.sub_mul] at hml2
    rw [if_pos (by rw [hsz, flat_length]; omega), hsz, show i * ie.size + j - o.es.length * ie.size = (i - o.es.length) * ie.size + j by rw [Nat.sub_mul]; omega, flat_get hi2 hjs]
    obtain ⟨s1, _, s3⟩ := hcells _ e j v t2 hj
    exact ⟨s1, _, rfl, s3⟩)
   refine ⟨_, _, S', .inl ?_, hat', hrep, hkp⟩
   unfold execOp
   simp only [ho, resolve, invoke, builtin, Sem.run_bind, Sem.run_pure, Result.andThen_ok, List.map_toArray, List.map_cons, List.map_nil, hu, hu2, hrun, List.length_append]
  -- it grows
  have holds : ∀ (j : Nat) (u : Value), (flat o.es.length ie.size f)[j]? = some u → S.w.cell? ((⟨S.β (.loc k), 0, none⟩ : Addr).add j) = some u := by
   intro j u hj
   obtain ⟨h1, rfl⟩ := flat_of hj
   obtain ⟨d1, d2⟩ := div_lt h1
   obtain ⟨e, v, he1, hv1⟩ := cell_at o.es hoes d1 d2
   rw [add_off, Nat.zero_add]
   have := (hf _ e _ v he1 hv1).2.1
   rw [hsz, show j / ie.size * ie.size + j % ie.size = j by rw [Nat.mul_comm]; exact Nat.div_add_mod j ie.size] at this
   simpa [World.cell?, q1] using this
  have hrun := run_append_grow (P := C.P) S.w T op.type e ti z hU z1 z4 ⟨S.β (.loc k), 0, none⟩ o.es.length c (flat o.es.length ie.size f) (by rw [flat_length, z2]) holds ⟨b, off, none⟩ es2.length c2 (flat es2.length ie.size g) (by rw [flat_length, z2]) hnews
   (by omega) (by omega) (growslice_fits (by omega) (by rw [z3]; exact hlen))
  have hcap := grownCap_ge S.w (o.es.length + es2.length) c e
  have hcapm := grownCap_le_maxLen S.w (o.es.length + es2.length) c e (hmax _ hm)
  generalize hgc : grownCap S.w (o.es.length + es2.length) c e = gc at hrun hcap hcapm
  obtain ⟨S', hat', hrep, hkp⟩ := hat.turn hk hb (o.es ++ es2) hall _ S.w.heap.size ((flat o.es.length ie.size f).toArray ++ (flat es2.length ie.size g).toArray ++ Builtin.zeroCells z.cells (gc - (o.es.length + es2.length))) gc
   (by rw [hty]; exact heap_alloc_new S.w.drew _) (.inr (Nat.le_refl _))
   (by
    simp only [Array.size_append, List.size_toArray, flat_length, size_zeroCells, z5, hE.zl, hsz]
    rw [← Nat.add_mul, ← Nat.add_mul]; congr 1; omega)
   (by simpa using hcap) hcapm (fun b' hb1 _ => heap_alloc_old S.w.drew _ hb1) (by simp) rfl rfl rfl (fun i e j v hi hj => by
    have hjs : j < ie.size := by rw [← hsz, ← hall e (List.mem_of_getElem? hi)]; exact (List.getElem?_eq_some_iff.1 hj).1
    have hil : i < o.es.length + es2.length := by have := (List.getElem?_eq_some_iff.1 hi).1; simpa using this
    have hml := Nat.mul_le_mul_right ie.size (show i + 1 ≤ o.es.length + es2.length from hil)
    rw [Nat.add_mul, Nat.one_mul, Nat.add_mul] at hml
    rw [Array.getElem?_append_left (by simp [flat_length, hsz]; omega), List.append_toArray, hsz, List.getElem?_toArray]
    rcases app_get (f := f) (g := g) hoes hes2 hi hj with ⟨t1, t2, t3⟩ | ⟨t1, t2, t3⟩
    ·rw [t3]
     obtain ⟨s1, _, s3⟩ := hf i e j v t2 hj
     exact ⟨s1, _, rfl, s3⟩
    rw [t3]
    obtain ⟨s1, _, s3⟩ := hcells _ e j v t2 hj
    exact ⟨s1, _, rfl, s3⟩)
  refine ⟨_, _, S', .inl ?_, hat', hrep, hkp⟩
  unfold execOp
  simp only [ho, resolve, invoke, builtin, Sem.run_bind, Sem.run_pure, Result.andThen_ok, List.map_toArray, List.map_cons, List.map_nil, hu, hu2, hrun, List.length_append]

end Go.Am

/- The abstract memory logic, fifteenth part: slices built, made, appended to where there is no room; pieces of slices and strings. -/
namespace Go.Am
open Go

def abs (sz : Nat) : Nat → List (Nat × AV) → Option (List (List AV))
 | _, [] => some []
 | n, (k, v) :: r => match Nat.beq k n with
  | true => match cellsOf v with
   | some cs => match Nat.beq cs.length sz with
    | true => match cs.all cl with
     | true => match abs sz (n + 1) r with
      | some es => some (cs :: es)
      | none => none
     | false => none
    | false => none
   | none => none
  | false => none

theorem abs_rep {S : Sit} {sz : Nat} : ∀ {ps : List (Nat × AV)} {us : List (Nat × Value)} {n : Nat} {es : List (List AV)} {ucells : Array Value}, abs sz n ps = some es → us.map (·.1) = ps.map (·.1) →
   (∀ (i : Nat) (p : Nat × AV) (u : Nat × Value), ps[i]? = some p → us[i]? = some u → Rep S p.2 u.2) → (n + ps.length) * sz ≤ ucells.size →
   es.length = ps.length ∧ (∀ e ∈ es, e.length = sz) ∧ ∃ out : Array Value, Instr.fill (fun i => some (i * sz, sz)) ucells us = some out ∧ out.size = ucells.size ∧ (∀ k, k < n * sz → out[k]? = ucells[k]?) ∧
    ∀ (i : Nat) (e : List AV) (j : Nat) (v : AV), es[i]? = some e → e[j]? = some v → cl v = true ∧ ∃ u, out[(n + i) * sz + j]? = some u ∧ RepC S v u
 | [], us, n, es, ucells, h, hk, _, hs => by
  simp at hk; subst hk
  simp [abs] at h; subst h
  exact ⟨rfl, fun e he => (by cases he), ucells, rfl, rfl, fun _ _ => rfl, fun i e j v hi => by simp at hi⟩
 | (k, v) :: ps, us, n, es, ucells, h, hk, hr, hs => by
  cases us with
  | nil => simp at hk
  | cons u us =>
   obtain ⟨i0, uv⟩ := u
   simp only [List.map_cons, List.cons.injEq] at hk
   obtain ⟨rfl, hk⟩ := hk
   unfold abs at h
   split at h
   ·rename_i hkn
    have hkn := Nat.eq_of_beq_eq_true hkn
    subst hkn
    split at h
    ·rename_i cs hcs
     split at h
     ·rename_i hb
      have hb := Nat.eq_of_beq_eq_true hb
      split at h
      ·rename_i hcl
       split at h
       ·rename_i es1 hes1
        cases h
        have rv : Rep S v uv := hr 0 _ _ rfl rfl
        obtain ⟨c1, c2⟩ := cellsOf_rep rv hcs
        simp only [List.length_cons] at hs
        have hml : (i0 + 1) * sz ≤ ucells.size := Nat.le_trans (Nat.mul_le_mul_right sz (by omega)) hs
        rw [Nat.add_mul, Nat.one_mul] at hml
        obtain ⟨out1, e1, e2, e3⟩ := fill_cons (place := fun i => some (i * sz, sz)) (cells := ucells) (i := i0) (v := uv) (rest := us) (off := i0 * sz) (by rw [c1, hb]) (by rw [c1, hb]; exact hml)
        obtain ⟨g1, g2, out, g3, g4, g5, g6⟩ := abs_rep (ps := ps) (us := us) (n := i0 + 1) (ucells := out1) hes1 hk (fun j p u hj hu => hr (j + 1) p u hj hu) (by rw [e2, show i0 + 1 + ps.length = i0 + (ps.length + 1) by omega]; exact hs)
        refine ⟨by simp [g1], fun e he => ?_, out, by rw [e1]; exact g3, g4.trans e2, fun k hk => ?_, fun i e j v hi hj => ?_⟩
        ·rcases List.mem_cons.1 he with rfl | he
         ·exact hb
         exact g2 e he
        ·rw [g5 k (by rw [Nat.add_mul]; omega), e3 k, if_neg (by omega)]
        cases i with
        | zero =>
         simp at hi
         subst hi
         have hjl := (List.getElem?_eq_some_iff.1 hj).1
         have hcv := List.all_eq_true.1 hcl v (List.mem_of_getElem? hj)
         refine ⟨hcv, uv.cells.getD j undef, ?_, cl_repc (c2 j v hj) hcv⟩
         rw [Nat.add_zero, g5 _ (by rw [Nat.add_mul]; omega), e3, if_pos (by omega), show i0 * sz + j - i0 * sz = j by omega]
         have : j < uv.cells.size := by omega
         simp [Array.getD, this]
        | succ i =>
         have := g6 i e j v (by simpa using hi) hj
         rwa [show i0 + 1 + i = i0 + (i + 1) by omega] at this
       cases h
      cases h
     cases h
    cases h
   cases h

theorem cl_d1 {v : AV} (h : cl v = true) : v.d1 = true := by
 cases v with
 | fn f a b => obtain ⟨rfl, rfl⟩ := cl_fn h; rfl
 | _ => first | rfl | cases h

theorem buildSlice_step {C : Ctx} {Γ : TTab} (hG : GOK C.P Γ) {σ : St} {op : Oper} {T e : TypeId} {n : Nat} {ps : List (Nat × Operand)} (ho : op.op = .buildSlice T n ps.toArray) {i ie : TI} (hT : look T Γ = some i) (hd : i.desc = .slice e)
  (he : look e Γ = some ie) {d : Nat} (hfree : look d σ.l = none) {vs : List (Nat × AV)} (hv : oevp σ.env ps = some vs) {es : List (List AV)} (h : abs ie.size 0 vs = some es) (hn : es.length = n) (hsm : n * ie.size ≤ 16777216) :
  Step C [] op σ (.osl (.loc d)) ⟨σ.env, (d, ⟨e, ie.size, false, es⟩) :: σ.l, σ.b, σ.O, σ.tk⟩ := by
 intro a w S hat
 have hwS := hat.w
 subst hwS
 have hU := (hG T i hT).und
 rw [hd] at hU
 have hE := hG e ie he
 obtain ⟨ti, z, z1, z2, z3, z4, z5, z6⟩ := zero_rep hE S
 obtain ⟨v1, v2⟩ := oevp_rep hat hv
 have hvl : vs.length = es.length := by
  obtain ⟨g1, _⟩ := abs_rep (S := S) (us := ps.map fun x => (x.1, a.eval x.2)) (ucells := Array.replicate ((0 + vs.length) * ie.size) undef) h v1 v2 (by simp)
  exact g1.symm
 have hmaxn : n ≤ maxLen := by
  have hp := hE.pos
  have := Nat.le_mul_of_pos_right n hp
  have : n ≤ 16777216 := by omega
  exact Nat.le_trans this (by unfold maxLen; decide)
 by_cases h0 : n = 0
 ·subst h0
  have hes : es = [] := List.length_eq_zero_iff.1 hn
  subst hes
  have hvs : vs = [] := List.length_eq_zero_iff.1 hvl
  subst hvs
  have hps : ps = [] := by cases ps with
   | nil => rfl
   | cons p r => simp at v1
  subst hps
  obtain ⟨S', hat', hmov, hβ, hO⟩ := hat.add hfree ⟨e, ie.size, false, []⟩ #[] (by simp) (fun h => by cases h) (fun e he => by cases he) (fun i e j v hi => by simp at hi) _ (.inr rfl)
  refine ⟨.slice (some ⟨S.w.heap.size, 0, none⟩) 0 0, _, S', .inl ?_, hat', ?_, keep_alloc hmov (.inl hat'.w)⟩
  ·unfold execOp
   simp [ho, Instr.buildSlice, run_underlying hU, sizeOf, typeInfo, z1, Instr.fill, newRow, Array.range_zero']
  have := Rep.osl (S := S') (.loc d) _ 0 _ hO rfl (by rw [hβ, hat'.w]; exact heap_alloc_new S.w _) (by simp) (by simp) (Nat.zero_le _)
  simpa [hβ] using this
 have hpos : 0 < n * ie.size := Nat.mul_pos (Nat.pos_of_ne_zero h0) hE.pos
 have hzs : (Array.map (fun x => z.cells[x % z.cells.size]!) (Array.range (n * ie.size))).size = n * ie.size := by simp
 obtain ⟨g1, g2, out, g3, g4, g5, g6⟩ := abs_rep (S := S) (us := ps.map fun x => (x.1, a.eval x.2)) (ucells := (Array.range (n * ie.size)).map (z.cells[· % z.cells.size]!)) h v1 v2 (by rw [hzs, hvl, hn, Nat.zero_add]; exact Nat.le_refl _)
 rw [hzs] at g4
 obtain ⟨S', hat', hmov, hβ, hO⟩ := hat.add hfree ⟨e, ie.size, false, es⟩ out (by rw [g4, hn]; exact Nat.le_refl _) (fun h => by cases h) g2 (fun i e j v hi hj => by
  obtain ⟨t1, u, t2, t3⟩ := g6 i e j v hi hj
  rw [Nat.zero_add] at t2
  exact ⟨cl_d1 t1, u, t2, .clo t3, fun _ => t3⟩) _ (.inr rfl)
 refine ⟨.slice (some ⟨S.w.heap.size, 0, none⟩) n n, _, S', .inl ?_, hat', ?_, keep_alloc hmov (.inl hat'.w)⟩
 ·have hrun := run_buildSlice (P := C.P) S.w T e n (ps.toArray.map fun x => (x.1, a.eval x.2)) out ti z hU z1 z4 (by rw [z2]; omega) (by rw [z2]; omega) (by rw [z2]; simpa using g3)
  unfold execOp
  simp only [ho, Sem.run_bind, hrun, Result.andThen_ok, Sem.run_pure]
 have := Rep.osl (S := S') (.loc d) _ n _ hO rfl (by rw [hβ, hat'.w]; exact heap_alloc_new S.w _) g4 (by rw [hn]; exact Nat.le_refl _) hmaxn
 simpa [hβ, hn] using this

end Go.Am

/- The abstract memory logic, sixteenth part: what a call does, how a function is entered and left. -/
namespace Go.Am
open Go

inductive Out where
 | ret (v : AV)
 | pan (v : AV)
 | box (o : Obj)

def sc : AV → Bool
 | .int .. => true
 | .bool _ => true
 | .str _ => true
 | .nilp => true
 | .nilfn => true
 | .nilif => true
 | _ => false

theorem sc_repc {S S' : Sit} {v : AV} {u : Value} (h : Rep S v u) (hv : sc v = true) : RepC S' v u := by
 cases h with
 | any => cases hv
 | jnk => cases hv
 | clo h =>
  cases h with
  | int => exact .int _ _
  | bool => exact .bool _
  | str => exact .str _
  | nilp => exact .nilp
  | nilfn => exact .nilfn
  | nilif => exact .nilif
  | _ => cases hv
 | optr => cases hv
 | hidp => cases hv
 | osl => cases hv
 | fn => cases hv
 | agg => cases hv
 | tup => cases hv

def sc1 : AV → Bool
 | .imm .. => true
 | v => sc v
theorem sc1_d1 {v : AV} (h : sc1 v = true) : v.d1 = true := by
 cases v <;> first | rfl | cases h
theorem sc1_of {v : AV} (h : sc v = true) : sc1 v = true := by
 cases v <;> first | rfl | cases h

def RepOut (S S' : Sit) : Out → Ending → Prop
 | .ret v, e => ∃ u, e = .returned u ∧ RepC S' v u
 | .pan v, e => ∃ u, e = .panicked [{ v := u, recovered := false }] ∧ RepC S' v u
 | .box o, e => ∃ b, ∃ cur : Array Value, e = .returned (.pointer (some ⟨b, 0, none⟩)) ∧ S.w.heap.size ≤ b ∧ S'.w.heap[b]? = some (.cells cur o.ty (0, 0)) ∧
   o.box = true ∧ o.es.length = 1 ∧ cur.size = o.sz ∧ (∀ e ∈ o.es, e.length = o.sz) ∧
   ∀ (i : Nat) (e : List AV) (j : Nat) (v : AV), o.es[i]? = some e → e[j]? = some v → sc1 v = true ∧ ∃ u, cur[i * o.sz + j]? = some u ∧ RepC S v u

def Arg (S : Sit) (v : AV) (u : Value) : Prop := match v with
 | .int .. | .bool _ | .str _ | .nilp | .cptr _ | .imm .. | .nilfn | .iface .. | .nilif | .agg _ | .tup _ => RepC S v u
 | .optr .. => Rep S v u
 | .fn _ a b => Rep S v u ∧ allc0 a = true ∧ allc0 b = true
 | _ => False

def tch0 : List AV → List ID
 | [] => []
 | v :: r => match v with
  | .optr x _ _ => x :: tch0 r
  | _ => tch0 r

def tch : List AV → List ID
 | [] => []
 | v :: r => match v with
  | .optr x _ _ => x :: tch r
  | .fn _ a b => tch0 a ++ (tch0 b ++ tch r)
  | _ => tch r

def ACalls (P : Program) (f : FuncId) (args : List AV) (O : Heap) (tk : Nat) (R : Out → Heap → Nat → Prop) : Prop :=
 (∃ fn c, P.funcs[f]? = some fn ∧ (fn.name == "runtime.NumGoroutine") = false ∧ fn.body = some c) ∧
 ∀ (S : Sit) (us : Array Value), S.O = O → S.tk = tk → SimH S → Inv S.B0 S.w → (∀ x ∈ tch args, S.fz x = false) → us.size = args.length → (∀ j v, args[j]? = some v → Arg S v (us.getD j undef)) →
  Calls P f us S.w fun e w' => ∃ out S', S'.w = w' ∧ SimH S' ∧ Ext S S' ∧ RepOut S S' out e ∧ R out S'.O S'.tk

theorem ACalls.mono {P : Program} {f : FuncId} {args : List AV} {O : Heap} {tk : Nat} {R R' : Out → Heap → Nat → Prop} (h : ACalls P f args O tk R) (hr : ∀ out O' tk', R out O' tk' → R' out O' tk') : ACalls P f args O tk R' :=
 ⟨h.1, fun S us h1 h2 h3 hi h3' h4 h5 => (h.2 S us h1 h2 h3 hi h3' h4 h5).mono fun e w' ⟨out, S', q1, q2, q3, q4, q5⟩ => ⟨out, S', q1, q2, q3, q4, hr _ _ _ q5⟩⟩


inductive Ent (bor : List ID) : AV → AV → Prop
 | same (v) (h : cl v = true) : Ent bor v v
 | cptr (cs) : Ent bor (.cptr cs) (.cptr cs)
 | agg (cs) : Ent bor (.agg cs) (.agg cs)
 | tup (cs) : Ent bor (.tup cs) (.tup cs)
 | iface (t v) : Ent bor (.iface t v) (.iface t v)
 | bor (k x i off) (h : bor[k]? = some x) : Ent bor (.optr x i off) (.optr (.bor k) i off)
 | up (x i off) (h : x ∉ bor) : Ent bor (.optr x i off) (.optr (.up x) i off)
 | fn (f a b a' b') (h1 : a.length = a'.length) (h2 : b.length = b'.length) (k1 : ∀ (j : Nat) (x y : AV), a[j]? = some x → a'[j]? = some y → Ent bor x y) (k2 : ∀ (j : Nat) (x y : AV), b[j]? = some x → b'[j]? = some y → Ent bor x y) :
   Ent bor (.fn f a b) (.fn f a' b')

def inner (S : Sit) (bor : List ID) (b : List Obj) : Sit :=
 { S with
  β := fun x => match x with
   | .loc _ => 0
   | .bor k => match bor[k]? with
    | some z => S.β z
    | none => 0
   | .up z => S.β z
  O := merge [] bor b S.O
  hid := fun x => match x with
   | .up z => if z ∈ bor then (S.O z).map (·.sz) else S.hid z
   | _ => none }

structure Bor (O : Heap) (bor : List ID) (b : List Obj) : Prop where
 len : b.length = bor.length
 nd : bor.Nodup
 at_ : ∀ (k : Nat) (x : ID), bor[k]? = some x → ∃ o, b[k]? = some o ∧ O x = some o ∧ o.box = true

theorem Bor.nil (O : Heap) : Bor O [] [] := ⟨rfl, List.nodup_nil, fun k x h => by simp at h⟩
theorem Bor.one {O : Heap} {x : ID} {o : Obj} (h : O x = some o) (hb : o.box = true) : Bor O [x] [o] := ⟨rfl, List.nodup_cons.2 ⟨fun h => (by cases h), List.nodup_nil⟩, fun k y hk => by
 cases k with
 | zero => simp at hk; subst hk; exact ⟨o, rfl, h, hb⟩
 | succ k => simp at hk⟩
theorem Bor.two {O : Heap} {x y : ID} {o p : Obj} (h : O x = some o) (hb : o.box = true) (h' : O y = some p) (hb' : p.box = true) (hne : x ≠ y) : Bor O [x, y] [o, p] := ⟨rfl, by simp [hne], fun k z hk => by
 match k with
 | 0 => simp at hk; subst hk; exact ⟨o, rfl, h, hb⟩
 | 1 => simp at hk; subst hk; exact ⟨p, rfl, h', hb'⟩
 | k + 2 => simp at hk⟩

section
variable {S : Sit} {bor : List ID} {b : List Obj}

theorem inner_live (hb : Bor S.O bor b) {g : Nat} (h : (inner S bor b).live g) : S.live g := by
 obtain ⟨x, hx, rfl⟩ := h
 cases x with
 | loc i => simp [inner, merge, look] at hx
 | bor k =>
  have hx' : ((b[k]?).map Obj.up).isSome = true := hx
  have hk : k < b.length := by
   cases hq : b[k]? with
   | none => rw [hq] at hx'; cases hx'
   | some _ => exact (List.getElem?_eq_some_iff.1 hq).1
  obtain ⟨z, hz⟩ : ∃ z, bor[k]? = some z := ⟨_, List.getElem?_eq_getElem (by rw [← hb.len]; exact hk)⟩
  obtain ⟨o, _, ho, _⟩ := hb.at_ k z hz
  exact ⟨z, by rw [ho]; rfl, by simp [inner, hz]⟩
 | up z =>
  have hx' : (if z ∈ bor then none else (S.O z).map Obj.up).isSome = true := hx
  split at hx'
  ·cases hx'
  refine ⟨z, ?_, rfl⟩
  cases hq : S.O z with
  | none => rw [hq] at hx'; cases hx'
  | some _ => rfl

theorem inner_le (hb : Bor S.O bor b) : Le S (inner S bor b) := ⟨Nat.le_refl _, rfl, rfl, rfl, rfl, Nat.le_refl _, fun _ _ => rfl, fun g hg => ⟨⟨hg.1, fun h => hg.2 (inner_live hb h)⟩, rfl⟩⟩

theorem inner_bor (hb : Bor S.O bor b) {k : Nat} {x : ID} (hk : bor[k]? = some x) : ∃ o, (inner S bor b).O (.bor k) = some o.up ∧ S.O x = some o ∧ (inner S bor b).β (.bor k) = S.β x ∧ o.box = true := by
 obtain ⟨o, h1, h2, h3⟩ := hb.at_ k x hk
 exact ⟨o, by show (b[k]?).map Obj.up = _; rw [h1]; rfl, h2, by simp [inner, hk], h3⟩

theorem inner_up {x : ID} (hx : x ∉ bor) : (inner S bor b).O (.up x) = (S.O x).map Obj.up := by
 show (if x ∈ bor then none else (S.O x).map Obj.up) = _
 rw [if_neg hx]

theorem optr_in (hs : SimH S) (hb : Bor S.O bor b) {x : ID} {i off : Nat} {u : Value} (h : Rep S (.optr x i off) u) : Rep (inner S bor b) (.optr (.up x) i off) u := by
 cases h with
 | clo h => cases h
 | optr _ _ _ o ho =>
  by_cases hx : x ∈ bor
  ·have : (inner S bor b).hid (.up x) = some o.sz := by show (if x ∈ bor then (S.O x).map (·.sz) else S.hid x) = _; rw [if_pos hx, ho]; rfl
   exact .hidp (S := inner S bor b) (.up x) i off o.sz this
  exact .optr (S := inner S bor b) (.up x) i off o.up (by rw [inner_up hx, ho]; rfl)
 | hidp _ _ _ sz hh =>
  by_cases hx : x ∈ bor
  ·obtain ⟨k, hk⟩ := List.mem_iff_getElem?.1 hx
   obtain ⟨o, _, ho, _⟩ := hb.at_ k x hk
   rw [hs.hid x sz hh] at ho
   cases ho
  have : (inner S bor b).hid (.up x) = some sz := by show (if x ∈ bor then (S.O x).map (·.sz) else S.hid x) = _; rw [if_neg hx]; exact hh
  exact .hidp (S := inner S bor b) (.up x) i off sz this

theorem repc_up0 {x : AV} {u : Value} (h : RepC S x u) : x.up0 = x := by
 cases h <;> rfl

theorem c0_in (hs : SimH S) (hb : Bor S.O bor b) {v : AV} {u : Value} (h : Rep S v u) (hc : v.c0 = true) : Rep (inner S bor b) v.up0 u := by
 cases v with
 | optr x i off => exact optr_in hs hb h
 | int k n => exact .clo ((cl_repc h rfl).le (inner_le hb))
 | bool b' => exact .clo ((cl_repc h rfl).le (inner_le hb))
 | str s => exact .clo ((cl_repc h rfl).le (inner_le hb))
 | nilp => exact .clo ((cl_repc h rfl).le (inner_le hb))
 | imm a c d e => exact .clo ((cl_repc h rfl).le (inner_le hb))
 | nilfn => exact .clo ((cl_repc h rfl).le (inner_le hb))
 | nilif => exact .clo ((cl_repc h rfl).le (inner_le hb))
 | any => cases hc
 | jnk => cases hc
 | cptr cs => exact .clo ((rep_cptr h).le (inner_le hb))
 | osl x => cases hc
 | fn f a b' => cases hc
 | iface t v => cases hc
 | agg cs => cases hc
 | tup cs => cases hc

theorem fn_c0 {f : Fn} {a b : List AV} (hd : (AV.fn f a b).d1 = true) : allc0 a = true ∧ allc0 b = true := by
 unfold AV.d1 at hd
 cases h1 : allc0 a with
 | true =>
  simp only [h1] at hd
  exact ⟨rfl, hd⟩
 | false => simp [h1] at hd

theorem map_get {f : AV → AV} {l : List AV} {j : Nat} {y : AV} (h : (l.map f)[j]? = some y) : ∃ x, l[j]? = some x ∧ y = f x := by
 rw [List.getElem?_map] at h
 obtain ⟨x, hx, rfl⟩ := Option.map_eq_some_iff.1 h
 exact ⟨x, hx, rfl⟩

theorem up_in (hs : SimH S) (hb : Bor S.O bor b) {v : AV} {u : Value} (h : Rep S v u) (hd : v.d1 = true) : Rep (inner S bor b) v.up u := by
 cases v with
 | optr x i off => exact optr_in hs hb h
 | osl x =>
  cases h with
  | clo h => cases h
  | osl _ o c cur ho hbx hw hc hl hm =>
   have hx : x ∉ bor := fun hx => by
    obtain ⟨k, hk⟩ := List.mem_iff_getElem?.1 hx
    obtain ⟨o', _, ho', hb'⟩ := hb.at_ k x hk
    rw [ho] at ho'; cases ho'; rw [hbx] at hb'; cases hb'
   have := Rep.osl (S := inner S bor b) (.up x) o.up c cur (by rw [inner_up hx, ho]; rfl) hbx hw hc (by simpa [Obj.up] using hl) hm
   rw [show o.up.es.length = o.es.length by simp [Obj.up]] at this
   exact this
 | fn f a b' =>
  obtain ⟨ha, hb''⟩ := fn_c0 hd
  cases h with
  | clo h =>
   cases h with
   | fn _ _ _ us1 us2 l1 l2 h1 h2 =>
    refine .fn _ _ _ us1 us2 (by simpa using l1) (by simpa using l2) (fun j y hj => ?_) (fun j y hj => ?_)
    ·obtain ⟨x, hx, rfl⟩ := map_get hj
     rw [repc_up0 (h1 j x hx)]; exact .clo ((h1 j x hx).le (inner_le hb))
    obtain ⟨x, hx, rfl⟩ := map_get hj
    rw [repc_up0 (h2 j x hx)]; exact .clo ((h2 j x hx).le (inner_le hb))
  | fn _ _ _ us1 us2 l1 l2 h1 h2 =>
   refine .fn _ _ _ us1 us2 (by simpa using l1) (by simpa using l2) (fun j y hj => ?_) (fun j y hj => ?_)
   ·obtain ⟨x, hx, rfl⟩ := map_get hj
    exact c0_in hs hb (h1 j x hx) (allc0_at ha j x hx)
   obtain ⟨x, hx, rfl⟩ := map_get hj
   exact c0_in hs hb (h2 j x hx) (allc0_at hb'' j x hx)
 | jnk =>
  cases h with
  | clo h => cases h
  | jnk _ h => exact .jnk _ h
 | cptr cs => exact .clo ((rep_cptr h).le (inner_le hb))
 | int k n => exact .clo ((cl_repc h rfl).le (inner_le hb))
 | bool b' => exact .clo ((cl_repc h rfl).le (inner_le hb))
 | str s => exact .clo ((cl_repc h rfl).le (inner_le hb))
 | nilp => exact .clo ((cl_repc h rfl).le (inner_le hb))
 | imm a c d e => exact .clo ((cl_repc h rfl).le (inner_le hb))
 | nilfn => exact .clo ((cl_repc h rfl).le (inner_le hb))
 | nilif => exact .clo ((cl_repc h rfl).le (inner_le hb))
 | any => cases hd
 | iface t v => cases hd
 | agg cs => cases hd
 | tup cs => cases hd

theorem c0_up0 {v : AV} (h : v.c0 = true) : v.up0.c0 = true := by
 cases v <;> first | rfl | cases h

theorem allc0_up0 : ∀ {l : List AV}, allc0 l = true → allc0 (l.map AV.up0) = true
 | [], _ => rfl
 | v :: r, h => by
  unfold allc0 at h
  split at h
  ·rename_i hv
   simp only [List.map_cons, allc0, c0_up0 hv]
   exact allc0_up0 h
  cases h

theorem d1_up {v : AV} (h : v.d1 = true) : v.up.d1 = true := by
 cases v with
 | fn f a b =>
  obtain ⟨h1, h2⟩ := fn_c0 h
  simp [AV.up, AV.d1, allc0_up0 h1, allc0_up0 h2]
 | _ => first | rfl | cases h

theorem ent_in (hs : SimH S) (hb : Bor S.O bor b) {v v' : AV} {u : Value} (he : Ent bor v v') (h : Arg S v u ∨ (v.c0 = true ∧ Rep S v u)) : Rep (inner S bor b) v' u := by
 induction he generalizing u with
 | same v hv =>
  refine .clo (RepC.le (inner_le hb) ?_)
  rcases h with h | h
  ·cases v with
   | fn f a b => exact cl_repc h.1 hv
   | _ => first | exact h | cases hv
  exact cl_repc h.2 hv
 | cptr cs => exact .clo ((h.elim (fun h => h) fun h => rep_cptr h.2).le (inner_le hb))
 | agg cs => exact .clo ((h.elim (fun h => h) fun h => (by cases h.1)).le (inner_le hb))
 | tup cs => exact .clo ((h.elim (fun h => h) fun h => (by cases h.1)).le (inner_le hb))
 | iface t v => exact .clo ((h.elim (fun h => h) fun h => (by cases h.1)).le (inner_le hb))
 | bor k x i off hk =>
  have hr : Rep S (.optr x i off) u := h.elim (fun h => h) fun h => h.2
  obtain ⟨o, h1, h2, h3, h4⟩ := inner_bor hb hk
  have hu := rep_optr hs h2 hr
  subst hu
  rw [← h3]
  exact .optr (S := inner S bor b) (.bor k) i off o.up h1
 | up x i off hx =>
  have hr : Rep S (.optr x i off) u := h.elim (fun h => h) fun h => h.2
  exact optr_in hs hb hr
 | fn f a b' a' b'' e1 e2 k1 k2 ih1 ih2 =>
  have hr : Rep S (.fn f a b') u ∧ allc0 a = true ∧ allc0 b' = true := h.elim (fun h => h) fun h => (by cases h.1)
  obtain ⟨hr, ha, hb'⟩ := hr
  have key : ∀ (l l' : List AV) (us : Array Value), us.size = l.length → l.length = l'.length → allc0 l = true → (∀ j x, l[j]? = some x → Rep S x (us.getD j undef)) →
    (∀ (j : Nat) (x y : AV), l[j]? = some x → l'[j]? = some y → ∀ {u : Value}, (Arg S x u ∨ (x.c0 = true ∧ Rep S x u)) → Rep (inner S bor b) y u) →
    us.size = l'.length ∧ ∀ j y, l'[j]? = some y → Rep (inner S bor b) y (us.getD j undef) := by
   intro l l' us q1 q2 q3 q4 q5
   refine ⟨q1.trans q2, fun j y hj => ?_⟩
   have hjl : j < l.length := by rw [q2]; exact (List.getElem?_eq_some_iff.1 hj).1
   exact q5 j l[j] y (List.getElem?_eq_getElem hjl) hj (.inr ⟨allc0_at q3 j _ (List.getElem?_eq_getElem hjl), q4 j _ (List.getElem?_eq_getElem hjl)⟩)
  cases hr with
  | clo hr =>
   cases hr with
   | fn _ _ _ us1 us2 l1 l2 h1 h2 =>
    obtain ⟨r1, r2⟩ := key a a' us1 l1 e1 ha (fun j x hx => .clo (h1 j x hx)) (fun j x y hx hy => ih1 j x y hx hy)
    obtain ⟨r3, r4⟩ := key b' b'' us2 l2 e2 hb' (fun j x hx => .clo (h2 j x hx)) (fun j x y hx hy => ih2 j x y hx hy)
    exact .fn _ _ _ us1 us2 r1 r3 r2 r4
  | fn _ _ _ us1 us2 l1 l2 h1 h2 =>
   obtain ⟨r1, r2⟩ := key a a' us1 l1 e1 ha h1 (fun j x y hx hy => ih1 j x y hx hy)
   obtain ⟨r3, r4⟩ := key b' b'' us2 l2 e2 hb' h2 (fun j x y hx hy => ih2 j x y hx hy)
   exact .fn _ _ _ us1 us2 r1 r3 r2 r4

theorem inner_sim (hs : SimH S) (hb : Bor S.O bor b) : SimH (inner S bor b) := by
 refine ⟨fun x o hx => ?_, fun x y hx hy hxy => ?_, fun x hx => ?_, fun t h1 h2 => ?_, hs.tinj, hs.b0, fun x sz hx => ?_, hs.tk2⟩
 ·have key : ∀ (z : ID) (p : Obj), S.O z = some p → (inner S bor b).β x = S.β z → o = p.up → ∃ cur, (inner S bor b).w.heap[(inner S bor b).β x]? = some (.cells cur o.ty (0, 0)) ∧ o.es.length * o.sz ≤ cur.size ∧ (o.box = true → o.es.length = 1 ∧ cur.size = o.sz) ∧
    (∀ e ∈ o.es, e.length = o.sz) ∧ ∀ (i : Nat) (e : List AV) (j : Nat) (v : AV), o.es[i]? = some e → e[j]? = some v → v.d1 = true ∧ ∃ u, cur[i * o.sz + j]? = some u ∧ Rep (inner S bor b) v u ∧ (o.box = false → RepC (inner S bor b) v u) := by
   intro z p hz hβ hop
   subst hop
   obtain ⟨cur, q1, q2, q3, q4, q5⟩ := hs.obj z p hz
   rw [hβ]
   refine ⟨cur, q1, by simpa [Obj.up] using q2, by simpa [Obj.up] using q3, fun e he => ?_, fun i e j v hi hj => ?_⟩
   ·simp only [Obj.up, List.mem_map] at he
    obtain ⟨e0, he0, rfl⟩ := he
    simpa [Obj.up] using q4 e0 he0
   simp only [Obj.up, List.getElem?_map] at hi
   obtain ⟨e0, he0, rfl⟩ := Option.map_eq_some_iff.1 hi
   obtain ⟨v0, hv0, rfl⟩ := map_get hj
   obtain ⟨s1, u, s2, s3, s4⟩ := q5 i e0 j v0 he0 hv0
   refine ⟨d1_up s1, u, s2, up_in hs hb s3 s1, fun hbx => ?_⟩
   have hc := s4 hbx
   have : v0.up = v0 := by
    cases hc with
    | fn f fi ca us1 us2 l1 l2 h1 h2 =>
     have m1 : fi.map AV.up0 = fi := by
      apply List.ext_getElem?
      intro n
      rw [List.getElem?_map]
      cases hn : fi[n]? with
      | none => rfl
      | some y => simp [repc_up0 (h1 n y hn)]
     have m2 : ca.map AV.up0 = ca := by
      apply List.ext_getElem?
      intro n
      rw [List.getElem?_map]
      cases hn : ca[n]? with
      | none => rfl
      | some y => simp [repc_up0 (h2 n y hn)]
     simp [AV.up, m1, m2]
    | _ => rfl
   rw [this]
   exact hc.le (inner_le hb)
  cases x with
  | loc i => simp [inner, merge, look] at hx
  | bor k =>
   have hx' : (b[k]?).map Obj.up = some o := hx
   obtain ⟨p, hp, rfl⟩ := Option.map_eq_some_iff.1 hx'
   obtain ⟨z, hz⟩ : ∃ z, bor[k]? = some z := ⟨_, List.getElem?_eq_getElem (by rw [← hb.len]; exact (List.getElem?_eq_some_iff.1 hp).1)⟩
   obtain ⟨p', hp', hO, _⟩ := hb.at_ k z hz
   rw [hp] at hp'; cases hp'
   exact key z p hO (by simp [inner, hz]) rfl
  | up z =>
   have hx' : (if z ∈ bor then none else (S.O z).map Obj.up) = some o := hx
   split at hx'
   ·cases hx'
   obtain ⟨p, hp, rfl⟩ := Option.map_eq_some_iff.1 hx'
   exact key z p hp rfl rfl
 ·-- names: each leads to one of the caller's
  have tr : ∀ x : ID, ((inner S bor b).O x).isSome = true → ∃ z, (S.O z).isSome = true ∧ (inner S bor b).β x = S.β z ∧ ((∃ k, x = .bor k ∧ bor[k]? = some z) ∨ (x = .up z ∧ z ∉ bor)) := by
   intro x hx
   cases x with
   | loc i => simp [inner, merge, look] at hx
   | bor k =>
    have hx' : ((b[k]?).map Obj.up).isSome = true := hx
    have hk : k < b.length := by
     cases hq : b[k]? with
     | none => rw [hq] at hx'; cases hx'
     | some _ => exact (List.getElem?_eq_some_iff.1 hq).1
    obtain ⟨z, hz⟩ : ∃ z, bor[k]? = some z := ⟨_, List.getElem?_eq_getElem (by rw [← hb.len]; exact hk)⟩
    obtain ⟨o, _, ho, _⟩ := hb.at_ k z hz
    exact ⟨z, by rw [ho]; rfl, by simp [inner, hz], .inl ⟨k, rfl, hz⟩⟩
   | up z =>
    have hx' : (if z ∈ bor then none else (S.O z).map Obj.up).isSome = true := hx
    split at hx'
    ·cases hx'
    rename_i hz
    refine ⟨z, ?_, rfl, .inr ⟨rfl, hz⟩⟩
    cases hq : S.O z with
    | none => rw [hq] at hx'; cases hx'
    | some _ => rfl
  obtain ⟨z, z1, z2, z3⟩ := tr x hx
  obtain ⟨z', z1', z2', z3'⟩ := tr y hy
  have : z = z' := hs.inj z z' z1 z1' (by rw [← z2, ← z2', hxy])
  subst this
  rcases z3 with ⟨k, rfl, hk⟩ | ⟨rfl, hz⟩ <;> rcases z3' with ⟨k', rfl, hk'⟩ | ⟨rfl, hz'⟩
  ·have : bor[k]? = bor[k']? := by rw [hk, hk']
   rw [(List.getElem?_inj (List.getElem?_eq_some_iff.1 hk).1 hb.nd).1 this]
  ·exact absurd (List.mem_of_getElem? hk) hz'
  ·exact absurd (List.mem_of_getElem? hk') hz
  rfl
 ·obtain ⟨z, hz, hzb⟩ := inner_live hb ⟨x, hx, rfl⟩
  rw [← hzb]; exact hs.base z hz
 ·obtain ⟨s1, s2, s3⟩ := hs.tok t h1 h2
  exact ⟨s1, fun h => s2 (inner_live hb h), s3⟩
 cases x with
 | loc i => cases hx
 | bor k => cases hx
 | up z =>
  show (if z ∈ bor then none else (S.O z).map Obj.up) = none
  split
  ·rfl
  rename_i hz
  have hx' : (if z ∈ bor then (S.O z).map (·.sz) else S.hid z) = some sz := hx
  rw [if_neg hz] at hx'
  rw [hs.hid z sz hx']; rfl

end

end Go.Am
