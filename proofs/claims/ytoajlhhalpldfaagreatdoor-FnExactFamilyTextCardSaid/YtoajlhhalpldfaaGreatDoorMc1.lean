/- The contract of 'caught': what is called in it may stop. -/
import Derived.Test.YtoajlhhalpldfaaGreatDoorMi3
import Derived.Test.YtoajlhhalpldfaaGreatDoorMc0
namespace Go.Am.YtoajlhhalpldfaaGreatDoor
open Go Go.Am

abbrev HT : TypeId := 77
def box00 : Obj := ⟨HT, 2, true, [[.int .i64 0, .int .i64 0]]⟩

theorem halt_rep {S : Sit} {c p : Int} {u : Value} (h : RepC S (haltv HT c p) u) : u = .iface HT (.agg #[.int .i64 c, .int .i64 p]) := by
 unfold haltv at h
 cases h with
 | iface _ _ u h =>
  cases h with
  | agg _ us hl hs h =>
   have h0 := h 0 _ rfl
   have h1 := h 1 _ rfl
   have hz : us.size = 2 := hl
   have e : us = #[us.getD 0 undef, us.getD 1 undef] := by
    apply Array.ext
    ·simpa using hz
    intro i h1 h2
    have : i = 0 ∨ i = 1 := by omega
    rcases this with rfl | rfl <;> simp [Array.getD, h1]
   generalize us.getD 0 undef = x at h0 e
   generalize us.getD 1 undef = y at h1 e
   cases h0
   cases h1
   rw [e]

set_option maxRecDepth 100000 in
theorem caught_run {K : FuncId} {bor : List ID} {b : List Obj} {caps caps' : List AV} {O : Heap} {tk : Nat} {RK R : Out → Heap → Nat → Prop} (hbor : Bor O bor b) (hent : EntL bor caps caps') (hok : caps'.all argok = true) (hbt : ∀ x ∈ bor, x ∈ tch [.fn (.func K) [] caps]) (hT : upsOf (tch caps') = [])
  (hK : ACalls Go.Proofs.Tryz.prog K caps' (merge [(2, box00)] bor b O) tk RK)
  (hret : ∀ v O' tk', RK (.ret v) O' tk' → ∃ b', O' = merge [(2, box00)] bor b' O ∧ b'.length = b.length ∧ R (.ret (.agg [.int .i64 0, .int .i64 0])) (OB bor b' O) tk')
  (hpan : ∀ v O' tk', RK (.pan v) O' tk' → ∃ c q b', v = haltv HT c q ∧ O' = merge [(2, box00)] bor b' O ∧ b'.length = b.length ∧ R (.ret (.agg [.int .i64 c, .int .i64 q])) (OB bor b' O) tk')
  (hbox : ∀ ob O' tk', ¬ RK (.box ob) O' tk') : ACalls Go.Proofs.Tryz.prog 56 [.fn (.func K) [] caps] O tk R := by
 refine ⟨⟨_, _, Go.Proofs.Tryz.func56, rfl, rfl⟩, fun S us hO htk hs hinv hfz hus harg => ?_⟩
 subst hO
 subst htk
 have hat0 := at_enter (P := Go.Proofs.Tryz.prog) (nt := Go.Proofs.Tryz.f56.ntmps) bor b [(0, .fn (.func K) [] caps')] (.cons (ent_fnL hent) (.nil _)) (leb rfl) hbt S hbor us hs hinv hfz hus harg
 refine calls_of_wp_defers Go.Proofs.Tryz.func56 rfl ?_
 let C : Ctx := ⟨Go.Proofs.Tryz.prog, S, Go.Proofs.Tryz.f56.ntmps, bor, fun _ => False, []⟩
 let σ1 : St := ⟨[(2, .optr (.loc 2) 0 0), (0, .fn (.func K) [] caps')], [(2, box00)], b, S.O, S.tk⟩
 let Q1 : AEx → St → Prop := fun e σ => e = .normal ∧ σ = σ1
 refine wp_seq (Code.wp_mono (Q := QC C (Run C Q1 [])) ?_ ?_)
 rotate_left
 ·refine (show Run C Q1 [.code _] .normal _ from ?_) _ _ _ hat0
  refine run_region ?_
  refine run_op rfl (alloc_step (d := 2) hG rfl rfl rfl) rfl (ltb rfl) ?_
  refine run_ops_nil ?_
  exact ⟨rfl, rfl⟩
 intro e a1 w1 hq
 cases e with
 | exit id => obtain ⟨_, _, _, h, _⟩ := hq; cases h
 | ret => obtain ⟨_, _, _, h, _⟩ := hq; cases h
 | panic ch => obtain ⟨_, _, _, _, _, _, _, _, h, _⟩ := hq; cases h
 | goto l => exact hq.elim
 | outgrown => exact hq.elim
 | normal =>
 obtain ⟨S1, σ, hat1, hq⟩ := hq
 obtain ⟨_, rfl⟩ := hq
 obtain ⟨u0, hu0, hr0⟩ := hat1.env 0 _ rfl
 obtain ⟨u2, hu2, hr2⟩ := hat1.env 2 _ rfl
 have hx2 : S1.O (.loc 2) = some box00 := by rw [hat1.O]; rfl
 have hu2e := rep_optr hat1.sim hx2 hr2
 have hnt := hat1.nt
 refine wp_seq ?_
 refine wp_region_lit ?_
 refine wpList_plain rfl fun K1 hK1 => ?_
 unfold Oper.wp
 have ev2 : a1.eval (.tmp 2) = u2 := by simp [Act.eval, hu2]
 rw [show (execOp a1.eval _).run Go.Proofs.Tryz.prog w1 = .ok (.value (.func (.func 89) #[] #[u2])) w1 by unfold execOp; simp [ev2, Instr.makeFunc]]
 rw [Oper.upon_value]
 refine hK1 _ _ ?_
 refine wpList_plain rfl fun K2 hK2 => ?_
 let fv : Value := .func (.func 89) #[] #[u2]
 let d : Deferred := { target := .fn (.func 89) #[u2], args := #[] }
 unfold Oper.wp
 have hsz : 3 < a1.tmps.size := by rw [hnt]; exact ltb rfl
 have ev3 : (a1.put (some 3) fv).eval (.tmp 3) = fv := by simp [Act.eval, Act.put, hsz]
 rw [show (execOp (a1.put (some 3) fv).eval _).run Go.Proofs.Tryz.prog w1 = .ok (.defer d) w1 by unfold execOp; simp [resolve, ev3, fv, d, Deferred.ofValue]]
 rw [Oper.upon_defer]
 refine hK2 _ _ ?_
 refine wpList_nil ?_
 have hd1 : (a1.put (some 3) fv).defers = [] := hat1.defers
 rw [hd1]
 generalize ha2 : ({ a1.put (some 3) fv with defers := [d] } : Act) = a2
 let C2 : Ctx := ⟨Go.Proofs.Tryz.prog, S, Go.Proofs.Tryz.f56.ntmps, bor, fun _ => False, [d]⟩
 have ht2 : a2.tmps = a1.tmps.setIfInBounds 3 fv := by rw [← ha2]; rfl
 have hat2 : At C2 σ1 a2 w1 S1 := by
  refine ⟨hat1.w, hat1.O, hat1.tk, hat1.sim, fun i v hv => ?_, by rw [ht2]; simpa using hnt, by rw [← ha2], hat1.ext, hat1.new, hat1.bl, hat1.nd, hat1.bb, hat1.h0, hat1.hl, hat1.hu, hat1.hv, hat1.hf, hat1.inv⟩
  obtain ⟨u, h1, h2⟩ := hat1.env i v hv
  refine ⟨u, ?_, h2⟩
  have hne : i ≠ 3 := fun e => by subst e; cases hv
  rw [ht2, Array.getElem?_setIfInBounds_ne (Ne.symm hne)]; exact h1
 show Code.wp _ _ _ a2 w1
 refine wp_seq ?_
 refine wp_region_lit ?_
 refine wpList_plain rfl fun K3 hK3 => ?_
 unfold Oper.wp
 have ev0 : a2.eval (.tmp 0) = u0 := by
  simp [Act.eval, ht2, hu0]
 rw [show (execOp a2.eval _).run Go.Proofs.Tryz.prog w1 = .ok (.value u0) w1 by unfold execOp; simp [ev0]]
 rw [Oper.upon_value]
 refine hK3 _ _ ?_
 have hat3 := hat2.put (d := 4) (v := .fn (.func K) [] caps') (u := u0) (ltb rfl) hr0
 refine wpList_plain rfl fun K4 hK4 => ?_
 have hTT : ∀ x, C2.S0.fz x = true → tfz (tch ([] ++ ([] ++ caps'))) (.up x) = true := fun x _ => decide_eq_true fun hm => by
  have := mem_upsOf hm
  have e : upsOf (tch ([] ++ ([] ++ caps'))) = [] := hT
  rw [e] at this; cases this
 refine call_wp (f := .tmp 4) (xs := []) (ts := #[]) hat3 rfl rfl rfl hok (R := RK) hK (fun v u S2 hx hs2 hr hR => ?_) (fun v u S2 hx hs2 hr hR => ?_) (fun ob u S2 _ _ _ hR => absurd hR (hbox _ _ _))
 ·obtain ⟨b', e1, e2, e3⟩ := hret v _ _ hR
  have hat4 := (hat3.fz (tfz (tch ([] ++ ([] ++ caps'))))).called hx hTT hs2 (σ' := ⟨(σ1.put 4 (.fn (.func K) [] caps')).env, [(2, box00)], b', S.O, S2.tk⟩) e1 rfl rfl e2
  have hat5 := hat4.put (d := 5) (ltb rfl) (.clo hr)
  refine hK4 _ _ (wpList_nil ?_)
  show Code.wp _ _ _ _ _
  let σ5 : St := ⟨[(6, .agg [.int .i64 0, .int .i64 0]), (5, v), (4, .fn (.func K) [] caps'), (2, .optr (.loc 2) 0 0), (0, .fn (.func K) [] caps')], [(2, box00)], b', S.O, S2.tk⟩
  let Q2 : AEx → St → Prop := fun e σ => e = .ret ∧ σ = σ5
  refine Code.wp_mono (Q := QC C2 (Run C2 Q2 [])) ?_ ((show Run C2 Q2 [.code _] .normal _ from ?_) _ _ _ hat5)
  rotate_left
  ·refine run_seq ?_
   refine run_region ?_
   refine run_pu rfl (build_step hG rfl (by rfl) rfl (fun h => by cases h) (by rfl)) rfl (ltb rfl) ?_
   refine run_op0 rfl (store_step hG rfl rfl rfl rfl rfl rfl rfl rfl) rfl ?_
   refine run_ops_nil ?_
   refine run_ret_to ?_
   exact ⟨rfl, rfl⟩
  intro e a5 w5 hq
  cases e with
  | normal => obtain ⟨_, _, _, h, _⟩ := hq; cases h
  | exit id => obtain ⟨_, _, _, h, _⟩ := hq; cases h
  | panic ch => obtain ⟨_, _, _, _, _, _, _, _, h, _⟩ := hq; cases h
  | goto l => exact hq.elim
  | outgrown => exact hq.elim
  | ret =>
  obtain ⟨S5, σ, hat6, hq⟩ := hq
  obtain ⟨_, rfl⟩ := hq
  show Leaves _ _ a5.tmps _ a5.defers .returning w5
  rw [hat6.defers]
  refine leaves_cons (f := 89) (args := #[u2]) (by simp) (by simp [go_sem]) ?_
  rw [hu2e]
  refine (Go.Proofs.YtoajlhhalpldfaaGreatDoor.Caught.idle _ w5).mono ?_
  rintro e u' w' ⟨rfl, rfl, rfl⟩
  have hres : Results C2 Go.Proofs.Tryz.f56 R σ5 := fin_x hG rfl (vs := [.agg [.int .i64 0, .int .i64 0]]) (v' := .agg [.int .i64 0, .int .i64 0]) rfl rfl rfl e3
  obtain ⟨z, w6, S6, σ6, out, r1, r2, r3, r4, r5⟩ := hres a5 w' S5 hat6
  subst r2
  exact ⟨z, r1, out, outer S6 (C2.out σ6) C2.S0.hid C2.S0.fz, r3.w, out_sim r3, r3.ext.un (fun _ h => h), r4, by rw [show (outer S6 (C2.out σ6) C2.S0.hid C2.S0.fz).tk = σ6.tk from r3.tk]; exact r5⟩
 obtain ⟨c, q, b', rfl, e1, e2, e3⟩ := hpan v _ _ hR
 have hat4 := (hat3.fz (tfz (tch ([] ++ ([] ++ caps'))))).called hx hTT hs2 (σ' := ⟨(σ1.put 4 (.fn (.func K) [] caps')).env, [(2, box00)], b', S.O, S2.tk⟩) e1 rfl rfl e2
 have hu := halt_rep hr
 subst hu
 have hβ : S2.β (.loc 2) = S1.β (.loc 2) := by
  obtain ⟨_, _, _, _, _, q, _⟩ := hx.obj (.loc 2) box00 hx2
  exact q
 have hx4 : S2.O (.loc 2) = some box00 := by rw [e1]; rfl
 obtain ⟨cur, q1, q2, q3, _, _⟩ := hs2.obj _ _ hx4
 have hc2 : cur.size = 2 := (q3 rfl).2
 have hcur : cur = #[cur.getD 0 undef, cur.getD 1 undef] := by
  apply Array.ext
  ·simpa using hc2
  intro i h1 h2
  have : i = 0 ∨ i = 1 := by omega
  rcases this with rfl | rfl <;> simp [Array.getD, h1]
 have q1' : S2.w.heap[S1.β (.loc 2)]? = some (.cells #[cur.getD 0 undef, cur.getD 1 undef] HT (0, 0)) := by rw [← hβ, q1, ← hcur]; rfl
 show Leaves _ _ _ _ _ (.panicking _) S2.w
 rw [hat4.defers]
 refine leaves_cons (f := 89) (args := #[u2]) (by simp) (by simp [go_sem]) ?_
 rw [hu2e]
 refine (Go.Proofs.YtoajlhhalpldfaaGreatDoor.Caught.pan _ _ _ c q S2.w q1').mono ?_
 rintro e u' w' ⟨rfl, rfl, rfl⟩
 let box : Obj := ⟨HT, 2, true, [[.int .i64 c, .int .i64 q]]⟩
 have hcell : ∀ (S : Sit) (i : Nat) (e : List AV) (j : Nat) (v : AV), box.es[i]? = some e → e[j]? = some v → v.d1 = true ∧ ∃ u, (#[.int .i64 c, .int .i64 q] : Array Value)[i * box.sz + j]? = some u ∧ Rep S v u ∧ (box.box = false → RepC S v u) := by
  intro S i e j v hi hj
  have h0 : i = 0 := by have := (List.getElem?_eq_some_iff.1 hi).1; simp [box] at this; omega
  subst h0
  cases hi
  match j, hj with
  | 0, hj => cases hj; exact ⟨rfl, _, rfl, .clo (.int _ _), fun h => by cases h⟩
  | 1, hj => cases hj; exact ⟨rfl, _, rfl, .clo (.int _ _), fun h => by cases h⟩
  | j + 2, hj => simp at hj
 obtain ⟨S5, hat5, _⟩ := hat4.setLoc (k := 2) (o := box00) rfl box rfl rfl rfl rfl cur #[.int .i64 c, .int .i64 q] q1 (by rw [hc2]; rfl) (fun e he => by simp [box] at he; subst he; rfl) (hcell S2)
 obtain ⟨S6, hat6, _, _, _⟩ := hat5.add (d := 5) rfl box #[.int .i64 c, .int .i64 q] (Nat.le_refl 2) (fun _ => ⟨rfl, rfl⟩) (fun e he => by simp [box] at he; subst he; rfl) (hcell S5) _ (.inr rfl)
 have hres : Results C2 Go.Proofs.Tryz.f56 R ⟨(σ1.put 4 (.fn (.func K) [] caps')).env, [(5, box), (2, box)], b', S.O, S2.tk⟩ := fin_x hG rfl (vs := [.agg [.int .i64 c, .int .i64 q]]) (v' := .agg [.int .i64 c, .int .i64 q]) rfl rfl rfl e3
 obtain ⟨z, w7, S7, σ7, out, r1, r2, r3, r4, r5⟩ := hres _ _ S6 hat6
 subst r2
 rw [hβ] at r1 r3
 exact ⟨z, r1, out, outer S7 (C2.out σ7) C2.S0.hid C2.S0.fz, r3.w, out_sim r3, r3.ext.un (fun _ h => h), r4, by rw [show (outer S7 (C2.out σ7) C2.S0.hid C2.S0.fz).tk = σ7.tk from r3.tk]; exact r5⟩

theorem caught_vz {α : Type} {j : Nat} {x : ID} {K : FuncId} {bor : List ID} (hj : bor[j]? = some x) {b : List Obj} {caps caps' : List AV} {O : Heap} {tk : Nat} {z : Rz α} {P : α → AV → Obj → Nat → Prop} (hbor : Bor O bor b) (hent : EntL bor caps caps') (hok : caps'.all argok = true) (hbt : ∀ x ∈ bor, x ∈ tch [.fn (.func K) [] caps]) (hT : upsOf (tch caps') = [])
  (hK : ACalls Go.Proofs.Tryz.prog K caps' (merge [(2, box00)] bor b O) tk (RetVZ HT (merge [(2, box00)] bor b O) (.bor j) tk z P (fun o' => o'.up = o'))) (hup : ∀ a v o' tk', P a v o' tk' → o'.up = o') :
  ACalls Go.Proofs.Tryz.prog 56 [.fn (.func K) [] caps] O tk (RetV O x tk (fun v o' tk' => z.cs (fun a => v = .agg [.int .i64 0, .int .i64 0] ∧ ∃ u, P a u o' tk') (fun c p => v = .agg [.int .i64 c, .int .i64 p] ∧ o'.up = o'))) := by
 have hlt : j < b.length := by rw [hbor.len]; exact (List.getElem?_eq_some_iff.1 hj).1
 have hOB : ∀ o', OB bor (b.set j o') O = upd O x o' := fun o' => by rw [OB_set hbor.nd hbor.len hj, out_same hbor]
 refine caught_run hbor hent hok hbt hT hK (fun v O' tk' h => ?_) (fun v O' tk' h => ?_) (fun ob O' tk' h => ?_)
 ·obtain ⟨o', h1, h2, h3⟩ := h
  cases z with
  | ok a =>
   obtain ⟨u, e, hu⟩ := h3
   exact ⟨b.set j o', h1.trans (merge_same hlt (hup _ _ _ _ hu)), by simp, _, o', rfl, hOB o', h2, rfl, u, hu⟩
  | stop c p => cases h3.1
 ·obtain ⟨o', h1, h2, h3⟩ := h
  cases z with
  | ok a => obtain ⟨u, e, hu⟩ := h3; cases e
  | stop c p => cases h3.1; exact ⟨c, p, b.set j o', rfl, h1.trans (merge_same hlt h3.2), by simp, _, o', rfl, hOB o', h2, rfl, h3.2⟩
 obtain ⟨o', h1, h2, h3⟩ := h
 cases z with
 | ok a => obtain ⟨u, e, hu⟩ := h3; cases e
 | stop c p => cases h3.1

theorem i_stop_ok (c p : Int) (O : Heap) (tk : Nat) : ACalls Go.Proofs.Tryz.prog 59 [.int .i64 c, .int .i64 p] O tk (RetS HT O tk c p) := by
 refine acalls_of_run Go.Proofs.Tryz.func59 rfl rfl [] [] (Bor.nil _) [(0, .int .i64 c), (1, .int .i64 p)] (.cons (entS rfl) (.cons (entS rfl) (.nil _))) (leb rfl) (fun _ h => by cases h) (fun S0 hO htk hfz => ?_)
 refine run_region ?_
 refine run_pu rfl (move_step (.inl rfl) rfl) rfl (ltb rfl) ?_
 refine run_pu rfl (move_step (.inl rfl) rfl) rfl (ltb rfl) ?_
 refine run_pu rfl (build_step hG rfl (by rfl) rfl (fun h => by cases h) (by rfl)) rfl (ltb rfl) ?_
 refine run_pu rfl (makeInterface_step hG rfl rfl rfl (fun m h => by cases h) (fun a w S hat => outc_repc (oev_rep hat rfl) rfl)) rfl (ltb rfl) ?_
 refine run_panic rfl rfl rfl ?_
 exact run_pan_at ⟨rfl, rfl, rfl⟩

end Go.Am.YtoajlhhalpldfaaGreatDoor
