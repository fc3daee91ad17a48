/- A whole element stored into a new row that is frozen: the two steps, in a row of steps and in a region that draws its order. -/
import Derived.Test.YtpkeophkdemcpaaMt
import Derived.Test.YtpkeophkdemcpaaMb1
namespace Go.Am
open Go

theorem put_exec {C : Ctx} {Γ : TTab} (hG : GOK C.P Γ) {σ : St} {o1 o2 : Oper} {T T3 : TypeId} {x y z : Operand} {d1 : Nat} (h1 : o1.op = .indexAddr T x y) (n1 : d1 < C.nt) (h3 : o2.op = .store T3 (.tmp d1) z)
  {q sz : Nat} {f : Bool} {es : List (List AV)} {kk : IntKind} {n : Int} {cs e : List AV} (hx : oev σ.env x = some (.imm q sz f es)) (hy : oev σ.env y = some (.int kk n)) (hn0 : 0 ≤ n)
  {i j : TI} {te : TypeId} (hT : look T Γ = some i) (hd : i.desc = .slice te) (he : look te Γ = some j) (hsz : sz = j.size) {i3 : TI} (hT3 : look T3 Γ = some i3) (hs3 : i3.size = sz)
  (hz : oev (σ.put d1 .any).env z = some (.agg cs)) (hcl : cs.length = sz) (hcd : alld1 cs = true) (hca : ∀ (j : Nat) (v : AV), cs[j]? = some v → AvC (fun t => t = q) v) (hq : 2 ≤ q) (hget : es[n.toNat]? = some e)
  (hfree : ∀ (i : Nat) (e : List AV) (j : Nat) (x : AV), es[i]? = some e → e[j]? = some x → AvC (fun t => t = q) x)
  (hCT : ∀ t, ¬ C.T t) (hO : σ.O = C.S0.O) (hzf : ∀ x, x ∉ C.bor → C.S0.fz x = true) (hqn : C.S0.tk ≤ q) (hb : ∀ o ∈ σ.b, ∀ e ∈ o.es, ∀ v ∈ e, AvC (fun t => t = q) v)
  {env' : List (Nat × AV)} {l' : List (Nat × Obj)} {es' : List (List AV)} (hes : es' = es.set n.toNat cs)
  (henv : TnE (fun t => t = q) (fun v v' => v = .imm q sz f es ∧ v' = .imm q sz f es') (σ.put d1 .any).env env')
  (hl : TnL (fun t => t = q) (fun v v' => v = .imm q sz f es ∧ v' = .imm q sz f es') σ.l l') {a : Act} {S : Sit} (hat : At C σ a S.w S) :
  ∃ u1 w' S'', (execOp a.eval o1).run C.P S.w = .ok (.value u1) S.w ∧ (execOp (a.put (some d1) u1).eval o2).run C.P S.w = .ok .skip w' ∧ At C ⟨env', l', σ.b, σ.O, σ.tk⟩ (a.put (some d1) u1) w' S'' := by
 have hU := (hG T i hT).und
 rw [hd] at hU
 have hel : C.P.elem T = te := by simp [Program.elem, hU]
 have hU' : C.P.underlying T = some (.slice (C.P.elem T)) := by rw [hel]; exact hU
 have uy := rep_int (oev_rep hat hy)
 have hr := rep_imm (oev_rep hat hx)
 generalize hgu : a.eval x = u at hr
 cases hr with
 | imm0 => simp at hget
 | imm _ _ _ _ b off cap us hne hcon hlc hm hfu ht h0 hszs hs hc1 hc2 =>
 obtain ⟨t1, t2, t3, cur, ty, hcur⟩ := ht hq
 subst t3
 have hlt := (List.getElem?_eq_some_iff.1 hget).1
 have hel2 : e.length = sz := hszs e (List.mem_of_getElem? hget)
 have r1 : (execOp a.eval o1).run C.P S.w = .ok (.value (.pointer (some ⟨b, n.toNat * sz, none⟩))) S.w := by
  unfold execOp
  simp only [h1, hgu, uy, Sem.run_bind, run_indexAt_slice S.w T _ _ _ _ _ hU', hel, sizeOf_run (hG te j he)]
  rw [if_pos ⟨by omega, by omega⟩]
  simp [add_off, hsz]
 have hat1 := hat.put (d := d1) (v := .any) (u := .pointer (some ⟨b, n.toNat * sz, none⟩)) n1 (.any _)
 have hev1 : (a.put (some d1) (.pointer (some ⟨b, n.toNat * sz, none⟩))).eval (.tmp d1) = .pointer (some ⟨b, n.toNat * sz, none⟩) := by
  have : d1 < a.tmps.size := by rw [hat.nt]; exact n1
  simp [Act.eval, Act.put, this]
 generalize hA : a.put (some d1) (.pointer (some ⟨b, n.toNat * sz, none⟩)) = a2 at hat1 hev1
 have rz := oev_rep hat1 hz
 generalize hzu : a2.eval z = uz at rz
 obtain ⟨uz, rfl, hul, hud, hur⟩ := rep_agg rz
 have hcr : ∀ (j : Nat) (v : AV), cs[j]? = some v → RepC S v (uz.getD j undef) := fun j v hj => (hca j v hj).repc (hur j v hj)
 have huz : ∀ j : Nat, j < sz → uz[j]? = some (uz.getD j undef) := fun j hj => by
  have : j < uz.size := by rw [hul, hcl]; exact hj
  simp [Array.getD, this]
 have hone : ∀ u ∈ (Value.agg uz).cells.toList, u.oneCell' = true := by
  intro u hu
  have hu : u ∈ uz.toList := hu
  obtain ⟨j, hj⟩ := List.mem_iff_getElem?.1 hu
  have hjl : j < uz.size := by have := (List.getElem?_eq_some_iff.1 hj).1; simpa using this
  have hjc : j < cs.length := by rw [← hul]; exact hjl
  have hd1 := hud j _ (List.getElem?_eq_getElem hjc)
  have hrr := hur j _ (List.getElem?_eq_getElem hjc)
  have e1 : uz.getD j undef = u := by
   have : uz[j]? = some u := by simpa using hj
   simp [Array.getD, hjl]
   rw [Array.getElem?_eq_getElem hjl] at this
   exact Option.some.inj this
  rw [e1] at hrr
  exact d1_one hrr hd1
 have hzl : (Value.agg uz).cells.toList.length = sz := by
  show uz.toList.length = sz
  rw [Array.length_toList, hul, hcl]
 -- how far the row reaches
 have hfit : n.toNat * sz + (Value.agg uz).cells.toList.length ≤ cur.size := by
  rw [hzl]
  by_cases hs0 : sz = 0
  ·subst hs0
   have := (hG te j he).pos
   omega
  have hj : sz - 1 < e.length := by omega
  have hcc := hc1 n.toNat e (sz - 1) _ hget (List.getElem?_eq_getElem hj)
  have : cur[n.toNat * sz + (sz - 1)]? = some (us n.toNat (sz - 1)) := by
   unfold World.cell? at hcc
   rw [hcur] at hcc
   simpa using hcc
  have := (Array.getElem?_eq_some_iff.1 this).1
  omega
 have r3 : (execOp a2.eval o2).run C.P S.w = .ok .skip (S.w.setRow b (cur.toList.take (n.toNat * sz) ++ (Value.agg uz).cells.toList ++ cur.toList.drop (n.toNat * sz + (Value.agg uz).cells.toList.length)).toArray) := by
  unfold execOp
  simp only [h3, hzu, hev1, Instr.storeAt, Instr.sureAddr, Sem.run_bind, Sem.run_pure, Result.andThen_ok,
   storeVar_run (hG T3 i3 hT3) S.w b (n.toNat * sz) ty cur hcur (.agg uz) (by rw [hs3, ← hzl, Array.length_toList]) hfit hone]
 generalize hcur' : (cur.toList.take (n.toNat * sz) ++ (Value.agg uz).cells.toList ++ cur.toList.drop (n.toNat * sz + (Value.agg uz).cells.toList.length)).toArray = cur' at r3
 have hput := (put_cells cur (n.toNat * sz) (Value.agg uz).cells.toList hfit).2
 rw [hcur'] at hput
 have hnew : (S.w.setRow b cur').heap[b]? = some (.cells cur' ty (0, 0)) := setRow_heap S.w _ cur cur' _ _ hcur
 have hold : ∀ b', b' ≠ b → (S.w.setRow b cur').heap[b']? = S.w.heap[b']? := fun b' hb => setRow_other S.w _ b' cur' hb
 have hsize : (S.w.setRow b cur').heap.size = S.w.heap.size := by simp
 have hlen : es'.length = es.length := by rw [hes]; simp
 have hget' : ∀ (i : Nat) (e' : List AV) (j : Nat) (x : AV), es'[i]? = some e' → e'[j]? = some x → (i = n.toNat ∧ cs[j]? = some x) ∨ (i ≠ n.toNat ∧ ∃ e0, es[i]? = some e0 ∧ e0[j]? = some x) := by
  intro i e' j x hi hj
  rw [hes] at hi
  by_cases hin : i = n.toNat
  ·subst hin
   rw [List.getElem?_set_self hlt] at hi
   cases hi
   exact .inl ⟨rfl, hj⟩
  rw [List.getElem?_set_ne (Ne.symm hin)] at hi
  exact .inr ⟨hin, e', hi, hj⟩
 have hsz' : ∀ e' ∈ es', e'.length = sz := by
  intro e' he'
  rw [hes] at he'
  rcases List.mem_or_eq_of_mem_set he' with h | rfl
  ·exact hszs e' h
  exact hcl
 have hgetz : ∀ j : Nat, (Value.agg uz).cells.toList[j]? = uz[j]? := fun j => by
  show uz.toList[j]? = uz[j]?
  rw [Array.getElem?_toList]
 obtain ⟨S'', hat3⟩ := hat1.turnedG hCT hO hzf hq hqn t1 (w' := S.w.setRow b cur') ⟨rfl, rfl, rfl⟩ hsize (fun b' hb' => hold b' (by rw [← t2]; exact hb'))
  (G := fun v v' => v = .imm q sz f es ∧ v' = .imm q sz f es') (fun v v' h => by rw [h.1]; rfl)
  (fun S' hw' hτ htk hB0 hcon' hkp v v' hv u hru => by
   obtain ⟨rfl, rfl⟩ := hv
   cases hru with
   | imm0 => simp at hget
   | imm _ _ _ _ b2 off2 cap2 us2 hne2 hconb hlc2 hm2 hfu2 ht2 h02 hszs2 hs2 hc12 hc22 =>
   obtain ⟨p1, p2, p3, cur2, ty2, hcur2⟩ := ht2 hq
   subst p3
   obtain rfl : b = b2 := t2.symm.trans p2
   rw [← hlen]
   refine .imm q sz f es' b 0 cap2 (fun i j => if i = n.toNat then uz.getD j undef else us2 i j) (fun h => hne2 (by rw [h] at hlen; exact List.length_eq_zero_iff.1 hlen.symm)) (hcon' b hconb) (by omega) hm2
    (fun h => by rw [hlen]; exact hfu2 h) (fun _ => ⟨by rw [htk]; exact p1, by rw [hτ]; exact p2, rfl, cur', ty, by rw [hw']; exact hnew⟩) (fun h => by rw [hB0]; exact h02 h) hsz' (fun i e' j x hi hj => ?_) (fun i e' j x hi hj => ?_) (fun i e' j x hi hj => ?_)
   ·rcases hget' i e' j x hi hj with ⟨_, h2⟩ | ⟨_, e0, h1, h2⟩
    ·exact alld1_at hcd j x h2
    exact hs2 i e0 j x h1 h2
   ·rw [hw']
    unfold World.cell?
    rw [hnew]
    simp only [Option.isSome_none, Bool.false_eq_true, if_false, Nat.zero_add]
    rw [hput, hzl]
    have hj' : j < sz := by rw [← hsz' e' (List.mem_of_getElem? hi)]; exact (List.getElem?_eq_some_iff.1 hj).1
    rcases hget' i e' j x hi hj with ⟨rfl, h2⟩ | ⟨hin, e0, h1, h2⟩
    ·rw [if_pos ⟨by omega, by omega⟩, if_pos rfl, hgetz, show n.toNat * sz + j - n.toNat * sz = j by omega]
     exact huz j hj'
    have hout : ¬ (n.toNat * sz ≤ i * sz + j ∧ i * sz + j < n.toNat * sz + sz) := by
     rintro ⟨q1, q2⟩
     rcases Nat.lt_trichotomy i n.toNat with hlt' | h' | hgt
     ·have := Nat.mul_le_mul_right sz (show i + 1 ≤ n.toNat from hlt'); rw [Nat.add_mul, Nat.one_mul] at this; omega
     ·exact hin h'
     have := Nat.mul_le_mul_right sz (show n.toNat + 1 ≤ i from hgt); rw [Nat.add_mul, Nat.one_mul] at this; omega
    rw [if_neg hout, if_neg hin]
    have := hc12 i e0 j x h1 h2
    unfold World.cell? at this
    rw [hcur] at this
    simpa using this
   rcases hget' i e' j x hi hj with ⟨rfl, h2⟩ | ⟨hin, e0, h1, h2⟩
   ·rw [if_pos rfl]; exact (hcr j x h2).av hkp hat.sim (hca j x h2)
   rw [if_neg hin]
   exact (hc22 i e0 j x h1 h2).av hkp hat.sim (hfree i e0 j x h1 h2))
  hb henv hl
 subst hA
 exact ⟨_, _, S'', r1, r3, hat3⟩

def AAnyN (C : Ctx) (all : Array Oper) (Q : AEx → St → Prop) (fuel : Nat) (listed : Array Bool) (σ : St) : Prop :=
 ∀ a w S, At C σ a w S → wpAnyH C.P .any all (QC C Q) (fun _ => True) fuel listed a w
def AOpQ (C : Ctx) (all : Array Oper) (Q : AEx → St → Prop) (i : Nat) (K : St → Prop) (σ : St) : Prop :=
 ∀ a w S, At C σ a w S → wpOp C.P all (QC C Q) i (fun a' w' => ∃ S' σ', At C σ' a' w' S' ∧ K σ') a w

section
variable {C : Ctx} {all : Array Oper} {Q : AEx → St → Prop} {fuel : Nat} {listed : Array Bool} {σ : St} {ks : List AItem}

theorem run_drawN {n : Nat} (hm : C.P.follows .mixedOrders = true) {id : Nat} (hn : all.size = n) (h : AAnyN C all (Run C Q ks) n (Array.replicate n false) σ) : Run C Q (.code (.region id all true) :: ks) .normal σ := by
 subst hn
 intro a w S hat
 have hat' := hat.world (w' := { w with drawn := w.drawn + 1 }) rfl rfl rfl rfl
 exact wp_region_held hm (h a _ _ hat')

theorem AOp.q {W : List ID} {i : Nat} {K : St → Prop} (hW : ∀ x ∈ W, (C.heap σ x).isSome = true) (h : AOp C all Q W i K σ) : AOpQ C all Q i K σ := fun a w S hat =>
 wpOp_mono (fun _ _ ⟨S', σ', h1, _, h3⟩ => ⟨S', σ', h1, h3⟩) (h a w S hat fun x hx => by rw [hat.O]; exact hW x hx)

theorem AAnyN.take {i : Nat} {oi : Oper} {v : AV} {d : Nat} (hi : all[i]? = some oi) (hs : Region.noSelect all = true) (hf : Region.free .any all listed i = true) (hr : (Region.ready .any all listed).contains i = true)
  (hg : oi.guard = none) (hd : oi.dst = some d) (hn : d < C.nt) (hy : Pu C oi σ v) (h : AAnyN C all Q fuel (listed.setIfInBounds i true) (σ.put d v)) : AAnyN C all Q (fuel + 1) listed σ := by
 intro a w S hat
 obtain ⟨u, h1, h2⟩ := hy a w S hat
 refine wpAnyH_take hi hs hf hr (fun c a' w' hq => ?_) (.inl ⟨by simp [Region.wanted, hg], fun w' _ => h1 w'⟩) trivial ?_
 ·obtain ⟨S1, σ1, v1, u1, e1, q1, q2, q3, q4⟩ := hq
  refine ⟨S1, σ1, v1, u1, e1, ⟨q1.w, q1.O, q1.tk, q1.sim, fun j x hj => by rw [e1] at hj; simp [look] at hj, by have := q1.nt; rw [hd] at this; simpa [Act.put] using this, by have := q1.defers; rw [hd] at this; exact this, q1.ext, q1.new, q1.bl, q1.nd, q1.bb, q1.h0, q1.hl, q1.hu, q1.hv, q1.hf, q1.inv⟩, q2, q3, q4⟩
 rw [hd]
 exact h _ _ S (hat.put hn h2)

theorem AAnyN.each {rs : List Nat} (hr : Region.ready .any all listed = rs) (hne : rs ≠ []) (h : ∀ i ∈ rs, AOpQ C all Q i (AAnyN C all Q fuel (listed.setIfInBounds i true)) σ) : AAnyN C all Q (fuel + 1) listed σ := by
 intro a w S hat
 exact wpAnyH_all hr hne fun i hi => wpOp_mono (fun a' w' ⟨S', σ', h1, h3⟩ => ⟨trivial, h3 _ _ S' h1⟩) (h i hi a w S hat)

theorem AAnyN.one {i : Nat} (hr : Region.ready .any all listed = [i]) (h : AOpQ C all Q i (AAnyN C all Q fuel (listed.setIfInBounds i true)) σ) : AAnyN C all Q (fuel + 1) listed σ :=
 AAnyN.each hr (fun h => by cases h) fun j hj => by rw [List.mem_singleton] at hj; subst hj; exact h

theorem AAnyN.done (hr : Region.ready .any all listed = []) (h : Q .normal σ) : AAnyN C all Q fuel listed σ := fun _ _ S hat => wpAnyH_done hr ⟨S, σ, hat, h⟩ _

theorem AAnyN.sub {σ' : St} (hs : Sub C σ σ') (h : AAnyN C all Q fuel listed σ') : AAnyN C all Q fuel listed σ := fun a w S hat => by
 obtain ⟨S', h1, _, _⟩ := hs a w S hat
 exact h a w S' h1

theorem AAnyN.put {Γ : TTab} (hG : GOK C.P Γ) {k1 k2 : Nat} (hr1 : Region.ready .any all listed = [k1]) (hr2 : Region.ready .any all (listed.setIfInBounds k1 true) = [k2]) {o1 o2 : Oper} (hi1 : all[k1]? = some o1) (hi2 : all[k2]? = some o2)
  (g1 : o1.guard = none) (g2 : o2.guard = none) {T T3 : TypeId} {x y z : Operand} {d1 : Nat} (h1 : o1.op = .indexAddr T x y) (e1 : o1.dst = some d1) (n1 : d1 < C.nt) (h3 : o2.op = .store T3 (.tmp d1) z) (e3 : o2.dst = none)
  {q sz : Nat} {f : Bool} {es : List (List AV)} {kk : IntKind} {n : Int} {cs e : List AV} (hx : oev σ.env x = some (.imm q sz f es)) (hy : oev σ.env y = some (.int kk n)) (hn0 : 0 ≤ n)
  {i j : TI} {te : TypeId} (hT : look T Γ = some i) (hd : i.desc = .slice te) (he : look te Γ = some j) (hsz : sz = j.size) {i3 : TI} (hT3 : look T3 Γ = some i3) (hs3 : i3.size = sz)
  (hz : oev (σ.put d1 .any).env z = some (.agg cs)) (hcl : cs.length = sz) (hcd : alld1 cs = true) (hca : ∀ (j : Nat) (v : AV), cs[j]? = some v → AvC (fun t => t = q) v) (hq : 2 ≤ q) (hget : es[n.toNat]? = some e)
  (hfree : ∀ (i : Nat) (e : List AV) (j : Nat) (x : AV), es[i]? = some e → e[j]? = some x → AvC (fun t => t = q) x)
  (hCT : ∀ t, ¬ C.T t) (hO : σ.O = C.S0.O) (hzf : ∀ x, x ∉ C.bor → C.S0.fz x = true) (hqn : C.S0.tk ≤ q) (hb : ∀ o ∈ σ.b, ∀ e ∈ o.es, ∀ v ∈ e, AvC (fun t => t = q) v)
  {env' : List (Nat × AV)} {l' : List (Nat × Obj)} {es' : List (List AV)} (hes : es' = es.set n.toNat cs)
  (henv : TnE (fun t => t = q) (fun v v' => v = .imm q sz f es ∧ v' = .imm q sz f es') (σ.put d1 .any).env env')
  (hl : TnL (fun t => t = q) (fun v v' => v = .imm q sz f es ∧ v' = .imm q sz f es') σ.l l')
  (h : AAnyN C all Q fuel ((listed.setIfInBounds k1 true).setIfInBounds k2 true) ⟨env', l', σ.b, σ.O, σ.tk⟩) : AAnyN C all Q (fuel + 2) listed σ := by
 intro a w S hat
 have hwS := hat.w
 subst hwS
 obtain ⟨u1, w', S'', r1, r3, hat3⟩ := put_exec hG h1 n1 h3 hx hy hn0 hT hd he hsz hT3 hs3 hz hcl hcd hca hq hget hfree hCT hO hzf hqn hb hes henv hl hat
 refine wpAnyH_all hr1 (fun h => by cases h) fun k hk => ?_
 rw [List.mem_singleton] at hk
 subst hk
 unfold wpOp
 simp only [hi1, Region.wanted, g1, if_true]
 refine .inl ?_
 unfold Oper.wp
 rw [r1]
 simp only [Oper.upon, e1]
 refine ⟨trivial, ?_⟩
 refine wpAnyH_all hr2 (fun h => by cases h) fun k hk => ?_
 rw [List.mem_singleton] at hk
 subst hk
 unfold wpOp
 simp only [hi2, Region.wanted, g2, if_true]
 refine .inl ?_
 unfold Oper.wp
 rw [r3]
 simp only [Oper.upon, e3]
 exact ⟨trivial, h _ _ S'' hat3⟩

end
end Go.Am

namespace Go.Am
open Go

mutual
theorem LF.cells_inj : ∀ {a b : LF}, a.cells = b.cells → a = b
 | .mk k n q f ks, .mk k2 n2 q2 f2 ks2, h => by
  simp only [LF.cells, List.cons.injEq, AV.int.injEq, AV.imm.injEq, true_and, and_true] at h
  obtain ⟨rfl, rfl, rfl, rfl, h⟩ := h
  rw [fcellss_inj h]
theorem fcellss_inj : ∀ {a b : List LF}, fcellss a = fcellss b → a = b
 | [], [], _ => rfl
 | [], _ :: _, h => by simp [fcellss] at h
 | _ :: _, [], h => by simp [fcellss] at h
 | a :: r, b :: s, h => by
  simp only [fcellss, List.cons.injEq] at h
  rw [LF.cells_inj h.1, fcellss_inj h.2]
end
mutual
theorem LP.cells_inj : ∀ {a b : LP}, a.cells = b.cells → a = b
 | .mk k n p e fs q f ks, .mk k2 n2 p2 e2 fs2 q2 f2 ks2, h => by
  simp only [LP.cells, List.cons.injEq, AV.int.injEq, AV.imm.injEq, true_and, and_true] at h
  obtain ⟨rfl, rfl, ⟨rfl, rfl, h1⟩, rfl, rfl, h2⟩ := h
  rw [fcellss_inj h1, pcellss_inj h2]
theorem pcellss_inj : ∀ {a b : List LP}, pcellss a = pcellss b → a = b
 | [], [], _ => rfl
 | [], _ :: _, h => by simp [pcellss] at h
 | _ :: _, [], h => by simp [pcellss] at h
 | a :: r, b :: s, h => by
  simp only [pcellss, List.cons.injEq] at h
  rw [LP.cells_inj h.1, pcellss_inj h.2]
end
theorem pget_lp {ks : List LP} {m : Nat} {k n : Int} {p : Nat} {e : Bool} {fs : List LF} {q : Nat} {f : Bool} {ks' : List LP} (h : (pcellss ks)[m]? = some [.int .i64 k, .int .i64 n, .imm p 3 e (fcellss fs), .imm q 4 f (pcellss ks')]) : ks[m]? = some (.mk k n p e fs q f ks') := by
 rw [pcellss_map, List.getElem?_map] at h
 obtain ⟨t, h1, h2⟩ := Option.map_eq_some_iff.1 h
 rw [h1, LP.cells_inj (b := .mk k n p e fs q f ks') h2]
theorem fget_lf {ks : List LF} {m : Nat} {k n : Int} {q : Nat} {f : Bool} {ks' : List LF} (h : (fcellss ks)[m]? = some [.int .i64 k, .int .i64 n, .imm q 3 f (fcellss ks')]) : ks[m]? = some (.mk k n q f ks') := by
 rw [fcellss_map, List.getElem?_map] at h
 obtain ⟨t, h1, h2⟩ := Option.map_eq_some_iff.1 h
 rw [h1, LF.cells_inj (b := .mk k n q f ks') h2]

def Gd (tk : Nat) (l : List Nat) : Prop := ∀ x ∈ l, x = 0 ∨ (2 ≤ x ∧ x < tk)
theorem Gd.mono {a b : Nat} {l : List Nat} (h : Gd a l) (k : a ≤ b) : Gd b l := fun x hx => (h x hx).imp id fun ⟨h1, h2⟩ => ⟨h1, Nat.lt_of_lt_of_le h2 k⟩
theorem Gd.left {tk : Nat} {a b : List Nat} (h : Gd tk (a ++ b)) : Gd tk a := fun x hx => h x (List.mem_append.2 (.inl hx))
theorem Gd.right {tk : Nat} {a b : List Nat} (h : Gd tk (a ++ b)) : Gd tk b := fun x hx => h x (List.mem_append.2 (.inr hx))
theorem Gd.nil (tk : Nat) : Gd tk [] := fun x hx => by cases hx
theorem ptoks_at {ks : List LP} {m : Nat} {t : LP} (h : ks[m]? = some t) : ∃ a b, ptoks ks = a ++ (t.toks ++ b) ∧ ks = ks.take m ++ t :: ks.drop (m + 1) ∧ a = ptoks (ks.take m) ∧ b = ptoks (ks.drop (m + 1)) := by
 have hl := (List.getElem?_eq_some_iff.1 h).1
 have e : ks = ks.take m ++ t :: ks.drop (m + 1) := by
  have : ks[m] = t := (List.getElem?_eq_some_iff.1 h).2
  rw [← this, List.getElem_cons_drop hl, List.take_append_drop]
 refine ⟨_, _, ?_, e, rfl, rfl⟩
 conv => lhs; rw [e]
 rw [ptoks_app]; rfl
theorem ftoks_at {ks : List LF} {m : Nat} {t : LF} (h : ks[m]? = some t) : ∃ a b, ftoks ks = a ++ (t.toks ++ b) ∧ ks = ks.take m ++ t :: ks.drop (m + 1) ∧ a = ftoks (ks.take m) ∧ b = ftoks (ks.drop (m + 1)) := by
 have hl := (List.getElem?_eq_some_iff.1 h).1
 have e : ks = ks.take m ++ t :: ks.drop (m + 1) := by
  have : ks[m] = t := (List.getElem?_eq_some_iff.1 h).2
  rw [← this, List.getElem_cons_drop hl, List.take_append_drop]
 refine ⟨_, _, ?_, e, rfl, rfl⟩
 conv => lhs; rw [e]
 rw [ftoks_app]; rfl
theorem pstoks_ne {q : Nat} {ks : List LP} (h : ks ≠ []) : pstoks q ks = q :: ptoks ks := by cases ks with
 | nil => exact absurd rfl h
 | cons => rfl
theorem fstoks_ne {q : Nat} {ks : List LF} (h : ks ≠ []) : fstoks q ks = q :: ftoks ks := by cases ks with
 | nil => exact absurd rfl h
 | cons => rfl
theorem ne_of_get {α : Type} {l : List α} {m : Nat} {x : α} (h : l[m]? = some x) : l ≠ [] := fun e => by subst e; simp at h
theorem pel_sub {q : Nat} {ks : List LP} {m : Nat} {k n : Int} {p : Nat} {e : Bool} {fs : List LF} {q' : Nat} {f : Bool} {ks' : List LP} (h : (pcellss ks)[m]? = some [.int .i64 k, .int .i64 n, .imm p 3 e (fcellss fs), .imm q' 4 f (pcellss ks')]) :
  ∃ a b, pstoks q ks = a ++ ((fstoks p fs ++ pstoks q' ks') ++ b) := by
 have h1 := pget_lp h
 obtain ⟨a, b, e1, _⟩ := ptoks_at h1
 rw [pstoks_ne (ne_of_get h1), e1, LP.toks_eq]
 exact ⟨q :: a, b, rfl⟩
theorem Gd.pidx {tk q : Nat} {ks : List LP} {m : Nat} {k n : Int} {p : Nat} {e : Bool} {fs : List LF} {q' : Nat} {f : Bool} {ks' : List LP} (g : Gd tk (pstoks q ks)) (h : (pcellss ks)[m]? = some [.int .i64 k, .int .i64 n, .imm p 3 e (fcellss fs), .imm q' 4 f (pcellss ks')]) :
  Gd tk (fstoks p fs ++ pstoks q' ks') := by
 obtain ⟨a, b, e1⟩ := pel_sub (q := q) h
 rw [e1] at g
 exact g.right.left
theorem Fr.sub {lo hi : Nat} {a b c : List Nat} (h : Fr lo hi (a ++ (b ++ c))) : Fr lo hi b :=
 ⟨(List.nodup_append.1 (List.nodup_append.1 h.1).2.1).1, fun x hx => h.2 x (List.mem_append.2 (.inr (List.mem_append.2 (.inl hx))))⟩
theorem Fr.pidx {lo hi q : Nat} {ks : List LP} {m : Nat} {k n : Int} {p : Nat} {e : Bool} {fs : List LF} {q' : Nat} {f : Bool} {ks' : List LP} (g : Fr lo hi (pstoks q ks)) (h : (pcellss ks)[m]? = some [.int .i64 k, .int .i64 n, .imm p 3 e (fcellss fs), .imm q' 4 f (pcellss ks')]) :
  Fr lo hi (fstoks p fs ++ pstoks q' ks') := by
 obtain ⟨a, b, e1⟩ := pel_sub (q := q) h
 rw [e1] at g
 exact g.sub
theorem Fr.avo {a b Q : Nat} {l : List Nat} (h : Fr a b l) (h2 : 2 ≤ a) (hd : b ≤ Q ∨ Q < a) : ∀ x ∈ l, x = 0 ∨ (2 ≤ x ∧ ¬ x = Q) := fun x hx => .inr ⟨Nat.le_trans h2 (h.2 x hx).1, fun e => by have := h.2 x hx; omega⟩
theorem Gd.avo {T Q : Nat} {l : List Nat} (h : Gd T l) (hd : T ≤ Q) : ∀ x ∈ l, x = 0 ∨ (2 ≤ x ∧ ¬ x = Q) := fun x hx => (h x hx).imp id fun ⟨h1, h2⟩ => ⟨h1, fun e => by omega⟩
theorem Fr.pq {lo hi p q : Nat} {fs : List LF} {ks : List LP} (h : Fr lo hi (fstoks p fs ++ pstoks q ks)) (hn : ks ≠ []) (h2 : 2 ≤ lo) :
  lo ≤ q ∧ q < hi ∧ (∀ x ∈ fstoks p fs, x = 0 ∨ (2 ≤ x ∧ ¬ x = q)) ∧ (∀ x ∈ ptoks ks, x = 0 ∨ (2 ≤ x ∧ ¬ x = q)) := by
 rw [pstoks_ne hn] at h
 have hq := h.2 q (List.mem_append.2 (.inr (List.mem_cons_self ..)))
 obtain ⟨n1, n2, n3⟩ := List.nodup_append.1 h.1
 refine ⟨hq.1, hq.2, fun x hx => .inr ⟨Nat.le_trans h2 (h.2 x (List.mem_append.2 (.inl hx))).1, fun e => n3 x hx q (List.mem_cons_self ..) e⟩, fun x hx => .inr ⟨Nat.le_trans h2 (h.2 x (List.mem_append.2 (.inr (List.mem_cons_of_mem _ hx)))).1, fun e => ?_⟩⟩
 subst e
 exact (List.nodup_cons.1 n2).1 hx
theorem Fr.fq {lo hi p q : Nat} {fs : List LF} {ks : List LP} (h : Fr lo hi (fstoks p fs ++ pstoks q ks)) (hn : fs ≠ []) (h2 : 2 ≤ lo) :
  lo ≤ p ∧ p < hi ∧ (∀ x ∈ pstoks q ks, x = 0 ∨ (2 ≤ x ∧ ¬ x = p)) ∧ (∀ x ∈ ftoks fs, x = 0 ∨ (2 ≤ x ∧ ¬ x = p)) := by
 rw [fstoks_ne hn] at h
 have hq := h.2 p (List.mem_append.2 (.inl (List.mem_cons_self ..)))
 obtain ⟨n1, n2, n3⟩ := List.nodup_append.1 h.1
 refine ⟨hq.1, hq.2, fun x hx => .inr ⟨Nat.le_trans h2 (h.2 x (List.mem_append.2 (.inr hx))).1, fun e => n3 p (List.mem_cons_self ..) x hx e.symm⟩, fun x hx => .inr ⟨Nat.le_trans h2 (h.2 x (List.mem_append.2 (.inl (List.mem_cons_of_mem _ hx)))).1, fun e => ?_⟩⟩
 subst e
 exact (List.nodup_cons.1 n1).1 hx

def lset {α : Type} (l : List α) (i : Int) (x : α) : List α := l.set i.toNat x
theorem pers_lset (ks : List LP) (i : Int) (t : LP) : lset (pers ks) i t.er = pers (ks.set i.toNat t) := by
 unfold lset; rw [pers_map, pers_map, List.map_set]
theorem fers_lset (ks : List LF) (i : Int) (t : LF) : lset (fers ks) i t.er = fers (ks.set i.toNat t) := by
 unfold lset; rw [fers_map, fers_map, List.map_set]
theorem pcellss_set (ks : List LP) (m : Nat) (t : LP) : pcellss (ks.set m t) = (pcellss ks).set m t.cells := by rw [pcellss_map, pcellss_map, List.map_set]
theorem fcellss_set (ks : List LF) (m : Nat) (t : LF) : fcellss (ks.set m t) = (fcellss ks).set m t.cells := by rw [fcellss_map, fcellss_map, List.map_set]

theorem nodup_mid {lo hi lo' hi' : Nat} {a b c b' : List Nat} (h : Fr lo hi (a ++ (b ++ c))) (k : Fr lo' hi' b') (hd : hi' ≤ lo ∨ hi ≤ lo') : (a ++ (b' ++ c)).Nodup := by
 obtain ⟨n1, n2, n3⟩ := List.nodup_append.1 h.1
 obtain ⟨m1, m2, m3⟩ := List.nodup_append.1 n2
 have far : ∀ x, (x ∈ a ∨ x ∈ c) → ∀ y ∈ b', x ≠ y := fun x hx y hy e => by
  have h1 := h.2 x (by
   rcases hx with q | q
   ·exact List.mem_append.2 (.inl q)
   exact List.mem_append.2 (.inr (List.mem_append.2 (.inr q))))
  have h2 := k.2 y hy
  omega
 refine List.nodup_append.2 ⟨n1, List.nodup_append.2 ⟨k.1, m2, fun x hx y hy e => far y (.inr hy) x hx e.symm⟩, fun x hx y hy => ?_⟩
 rcases List.mem_append.1 hy with q | q
 ·exact far x (.inl hx) y q
 exact n3 x hx y (List.mem_append.2 (.inr q))
theorem Fr.mid {lo hi lo' hi' L H : Nat} {a b c b' : List Nat} (h : Fr lo hi (a ++ (b ++ c))) (k : Fr lo' hi' b') (hd : hi' ≤ lo ∨ hi ≤ lo') (l1 : L ≤ lo) (l2 : L ≤ lo') (l3 : hi ≤ H) (l4 : hi' ≤ H) : Fr L H (a ++ (b' ++ c)) := by
 refine ⟨nodup_mid h k hd, fun x hx => ?_⟩
 rcases List.mem_append.1 hx with q | q
 ·have := h.2 x (List.mem_append.2 (.inl q)); omega
 rcases List.mem_append.1 q with q | q
 ·have := k.2 x q; omega
 have := h.2 x (List.mem_append.2 (.inr (List.mem_append.2 (.inr q)))); omega
theorem set_eq_mid {α : Type} {l : List α} {m : Nat} {x y : α} (h : l[m]? = some x) : l.set m y = l.take m ++ y :: l.drop (m + 1) := by
 have hl := (List.getElem?_eq_some_iff.1 h).1
 rw [List.set_eq_take_append_cons_drop, if_pos hl]
theorem Fr.pset {lo hi lo' hi' L H p q : Nat} {fs : List LF} {ks : List LP} {m : Nat} {t t' : LP} (h : Fr lo hi (fstoks p fs ++ pstoks q ks)) (hg : ks[m]? = some t) (k : Fr lo' hi' t'.toks) (hd : hi' ≤ lo ∨ hi ≤ lo') (l1 : L ≤ lo) (l2 : L ≤ lo') (l3 : hi ≤ H) (l4 : hi' ≤ H) :
  Fr L H (fstoks p fs ++ pstoks q (ks.set m t')) := by
 obtain ⟨a, b, e1, e2, rfl, rfl⟩ := ptoks_at hg
 have hne : ks.set m t' ≠ [] := by rw [set_eq_mid hg]; simp
 rw [pstoks_ne (ne_of_get hg), e1] at h
 rw [pstoks_ne hne, set_eq_mid hg, ptoks_app]
 have := Fr.mid (a := fstoks p fs ++ (q :: ptoks (ks.take m))) (c := ptoks (ks.drop (m + 1))) (by simpa using h) k hd l1 l2 l3 l4
 simpa [ptoks] using this
theorem Fr.fset {lo hi lo' hi' L H p q : Nat} {fs : List LF} {ks : List LP} {m : Nat} {t t' : LF} (h : Fr lo hi (fstoks p fs ++ pstoks q ks)) (hg : fs[m]? = some t) (k : Fr lo' hi' t'.toks) (hd : hi' ≤ lo ∨ hi ≤ lo') (l1 : L ≤ lo) (l2 : L ≤ lo') (l3 : hi ≤ H) (l4 : hi' ≤ H) :
  Fr L H (fstoks p (fs.set m t') ++ pstoks q ks) := by
 obtain ⟨a, b, e1, e2, rfl, rfl⟩ := ftoks_at hg
 have hne : fs.set m t' ≠ [] := by rw [set_eq_mid hg]; simp
 rw [fstoks_ne (ne_of_get hg), e1] at h
 rw [fstoks_ne hne, set_eq_mid hg, ftoks_app]
 have := Fr.mid (a := p :: ftoks (fs.take m)) (c := ftoks (fs.drop (m + 1)) ++ pstoks q ks) (by simpa using h) k hd l1 l2 l3 l4
 simpa [ftoks] using this

end Go.Am

namespace Go.Am
open Go
theorem byt_av {Q : Nat} {f : Bool} {k : IntKind} (l : List Int) : AvC (fun t => t = Q) (.imm 0 1 f (l.map fun n => [AV.int k n])) := by
 refine .imm _ _ _ _ (fun _ => .inl rfl) fun i e j x hi hj => ?_
 rw [List.getElem?_map] at hi
 obtain ⟨n, _, rfl⟩ := Option.map_eq_some_iff.1 hi
 cases j with
 | zero => cases hj; exact .int _ _
 | succ j => simp at hj
end Go.Am

namespace Go.Am
open Go
def Rg (lo hi : Nat) (l : List Nat) : Prop := ∀ x ∈ l, lo ≤ x ∧ x < hi
theorem Rg.nil (lo hi : Nat) : Rg lo hi [] := fun x h => by cases h
theorem Rg.mono {lo hi lo' hi' : Nat} {l : List Nat} (h : Rg lo hi l) (h1 : lo' ≤ lo) (h2 : hi ≤ hi') : Rg lo' hi' l := fun x hx => ⟨Nat.le_trans h1 (h x hx).1, Nat.lt_of_lt_of_le (h x hx).2 h2⟩
theorem Rg.app {lo hi : Nat} {a b : List Nat} (h : Rg lo hi a) (k : Rg lo hi b) : Rg lo hi (a ++ b) := fun x hx => (List.mem_append.1 hx).elim (h x) (k x)
theorem Rg.left {lo hi : Nat} {a b : List Nat} (h : Rg lo hi (a ++ b)) : Rg lo hi a := fun x hx => h x (List.mem_append.2 (.inl hx))
theorem Rg.right {lo hi : Nat} {a b : List Nat} (h : Rg lo hi (a ++ b)) : Rg lo hi b := fun x hx => h x (List.mem_append.2 (.inr hx))
theorem Fr.rg {a b lo hi : Nat} {l : List Nat} (h : Fr a b l) (h1 : lo ≤ a) (h2 : b ≤ hi) : Rg lo hi l := fun x hx => ⟨Nat.le_trans h1 (h.2 x hx).1, Nat.lt_of_lt_of_le (h.2 x hx).2 h2⟩
theorem Rg.fcons {lo hi : Nat} {k n : Int} {q : Nat} {f : Bool} {ks r : List LF} (h : Rg lo hi (fstoks q ks)) (h2 : Rg lo hi (ftoks r)) : Rg lo hi (ftoks (LF.mk k n q f ks :: r)) := by
 simp only [ftoks, LF.toks_eq]; exact h.app h2
theorem Rg.pcons {lo hi : Nat} {k n : Int} {q1 : Nat} {f1 : Bool} {fs : List LF} {q : Nat} {f : Bool} {ks r : List LP} (h : Rg lo hi (fstoks q1 fs ++ pstoks q ks)) (h2 : Rg lo hi (ptoks r)) : Rg lo hi (ptoks (LP.mk k n q1 f1 fs q f ks :: r)) := by
 simp only [ptoks, LP.toks_eq]; exact h.app h2
theorem Rg.ftop {lo hi q : Nat} {ks : List LF} (h : Rg lo hi (ftoks ks)) (h1 : lo ≤ q) (h2 : q < hi) : Rg lo hi (fstoks q ks) := by
 cases ks with
 | nil => exact .nil _ _
 | cons t r => exact fun x hx => (List.mem_cons.1 hx).elim (fun e => by subst e; exact ⟨h1, h2⟩) (h x)
theorem Rg.ptop {lo hi q : Nat} {ks : List LP} (h : Rg lo hi (ptoks ks)) (h1 : lo ≤ q) (h2 : q < hi) : Rg lo hi (pstoks q ks) := by
 cases ks with
 | nil => exact .nil _ _
 | cons t r => exact fun x hx => (List.mem_cons.1 hx).elim (fun e => by subst e; exact ⟨h1, h2⟩) (h x)
theorem Rg.fidx {lo hi q : Nat} {ks : List LF} {m : Nat} {k n : Int} {q' : Nat} {f : Bool} {ks' : List LF} (g : Rg lo hi (fstoks q ks)) (h : (fcellss ks)[m]? = some [.int .i64 k, .int .i64 n, .imm q' 3 f (fcellss ks')]) : Rg lo hi (fstoks q' ks') := by
 have h1 := fget_lf h
 obtain ⟨a, b, e1, _⟩ := ftoks_at h1
 rw [fstoks_ne (ne_of_get h1), e1, LF.toks_eq] at g
 exact fun x hx => g x (List.mem_cons_of_mem _ (List.mem_append.2 (.inr (List.mem_append.2 (.inl hx)))))
theorem Rg.avo {a b Q : Nat} {l : List Nat} (h : Rg a b l) (h2 : 2 ≤ a) (hd : b ≤ Q ∨ Q < a) : ∀ x ∈ l, x = 0 ∨ (2 ≤ x ∧ ¬ x = Q) := fun x hx => .inr ⟨Nat.le_trans h2 (h x hx).1, fun e => by have := h x hx; omega⟩
theorem Rg.mid {lo hi : Nat} {a b c b' : List Nat} (h : Rg lo hi (a ++ (b ++ c))) (k : Rg lo hi b') : Rg lo hi (a ++ (b' ++ c)) := h.left.app (k.app h.right.right)
theorem Rg.pset {L H p q : Nat} {fs : List LF} {ks : List LP} {m : Nat} {t t' : LP} (h : Rg L H (fstoks p fs ++ pstoks q ks)) (hg : ks[m]? = some t) (k : Rg L H t'.toks) : Rg L H (fstoks p fs ++ pstoks q (ks.set m t')) := by
 obtain ⟨a, b, e1, e2, rfl, rfl⟩ := ptoks_at hg
 have hne : ks.set m t' ≠ [] := by rw [set_eq_mid hg]; simp
 rw [pstoks_ne (ne_of_get hg), e1] at h
 rw [pstoks_ne hne, set_eq_mid hg, ptoks_app]
 have := Rg.mid (a := fstoks p fs ++ (q :: ptoks (ks.take m))) (c := ptoks (ks.drop (m + 1))) (by simpa using h) k
 simpa [ptoks] using this
theorem Rg.fset {L H p q : Nat} {fs : List LF} {ks : List LP} {m : Nat} {t t' : LF} (h : Rg L H (fstoks p fs ++ pstoks q ks)) (hg : fs[m]? = some t) (k : Rg L H t'.toks) : Rg L H (fstoks p (fs.set m t') ++ pstoks q ks) := by
 obtain ⟨a, b, e1, e2, rfl, rfl⟩ := ftoks_at hg
 have hne : fs.set m t' ≠ [] := by rw [set_eq_mid hg]; simp
 rw [fstoks_ne (ne_of_get hg), e1] at h
 rw [fstoks_ne hne, set_eq_mid hg, ftoks_app]
 have := Rg.mid (a := p :: ftoks (fs.take m)) (c := ftoks (fs.drop (m + 1)) ++ pstoks q ks) (by simpa using h) k
 simpa [ftoks] using this
def VFg (lo hi : Nat) (r : F) (v : AV) : Prop := ∃ k n q f ks, v = .agg [.int .i64 k, .int .i64 n, .imm q 3 f (fcellss ks)] ∧ r = .mk k n (fers ks) ∧ Rg lo hi (fstoks q ks)
def VPg (lo hi : Nat) (r : Pf) (v : AV) : Prop := ∃ k n q1 f1 fs q f ks, v = .agg [.int .i64 k, .int .i64 n, .imm q1 3 f1 (fcellss fs), .imm q 4 f (pcellss ks)] ∧ r = .mk k n (fers fs) (pers ks) ∧ Rg lo hi (fstoks q1 fs ++ pstoks q ks)
end Go.Am
namespace Go.Am
open Go
theorem src_av {Q : Nat} {ty : TypeId} {f : Bool} {l : List Int} {k : IntKind} {a b : Int} : ∀ o ∈ [(⟨ty, 3, true, [[.imm 0 1 f (l.map fun n => [AV.int k n]), .int .i64 a, .int .i64 b]]⟩ : Obj)], ∀ e ∈ o.es, ∀ v ∈ e, AvC (fun t => t = Q) v := by
 intro o ho e he v hv
 rw [List.mem_singleton] at ho
 subst ho
 rw [List.mem_singleton] at he
 subst he
 simp only [List.mem_cons, List.not_mem_nil, or_false] at hv
 rcases hv with rfl | rfl | rfl
 ·exact byt_av _
 ·exact .int _ _
 exact .int _ _
end Go.Am
