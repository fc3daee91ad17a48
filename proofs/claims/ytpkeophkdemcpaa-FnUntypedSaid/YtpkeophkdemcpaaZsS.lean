/- Printed by a program of ours: Lean functions that do what the Go functions do, and the contracts. -/
import Derived.Test.YtpkeophkdemcpaaTypes
import Derived.Test.YtpkeophkdemcpaaMi4
import Derived.Test.YtpkeophkdemcpaaMc1
import Derived.Test.YtpkeophkdemcpaaMb3
import Derived.Test.YtpkeophkdemcpaaMb1
import Derived.Test.YtpkeophkdemcpaaGs0
import Derived.Test.YtpkeophkdemcpaaMp
import Derived.Test.YtpkeophkdemcpaaZsA
import Derived.Test.YtpkeophkdemcpaaStMw
import Derived.Test.YtpkeophkdemcpaaMz
-- packed
namespace Go.Am.Ytpkeophkdemcpaa
open Go Go.Am

def s_l00Src_spoiltExpr : Nat → (List Int × Int × Int) → Pf → Option (Pf × (List Int × Int × Int))
 | 0, _, _ => none
 | n + 1, z1, x5 =>
  (s_l09Move n x5 0 0).bind fun r6 =>
  jn (fun (l14 : List Int) (i15 : Int) (i16 : Int) =>
   (s_l00Src_next (l14, i15, i16) 4).bind fun r137 =>
   if r137.1 = 0 then
    (s_l00Src_next (r137.2.1, r137.2.2.1, r137.2.2.2) 5).bind fun r150 =>
    some ((Pf.mk r150.1 r6.n r6.forms r6.kids), (r150.2.1, r150.2.2.1, r150.2.2.2))
   else
    if r137.1 = 1 then
     (s_l00Src_next (r137.2.1, r137.2.2.1, r137.2.2.2) 6).bind fun r163 =>
     (idx ([1, 0, 4, (-1), 100, 101]) r163.1).bind fun y175 =>
     some ((Pf.mk r6.kind y175 r6.forms r6.kids), (r163.2.1, r163.2.2.1, r163.2.2.2))
    else
     if r137.1 = 2 then
      if ((r6.forms).length : Int) > 0 then
       (s_l00Src_anyType n (r137.2.1, r137.2.2.1, r137.2.2.2)).bind fun r182 =>
       (idx r6.forms 0).bind fun y195 =>
       some ((Pf.mk r6.kind r6.n (lset r6.forms 0 r182.1) r6.kids), (r182.2.1, r182.2.2.1, r182.2.2.2))
      else
       some (r6, (r137.2.1, r137.2.2.1, r137.2.2.2))
     else
      (s_l00Src_next (r137.2.1, r137.2.2.1, r137.2.2.2) 3).bind fun r224 =>
      some ((Pf.mk 2 0 [] [r6, (Pf.mk 1 r224.1 [] [])]), (r224.2.1, r224.2.2.1, r224.2.2.2))) fun j13 =>
  if ((r6.kids).length : Int) > 0 then
   (s_l00Src_chance (z1.1, z1.2.1, z1.2.2) 3).bind fun r18 =>
   if (!r18.1) = true then
    (s_l00Src_next (r18.2.1, r18.2.2.1, r18.2.2.2) ((r6.kids).length : Int)).bind fun r31 =>
    (idx r6.kids r31.1).bind fun y43 =>
    (s_l00Src_spoiltExpr n (r31.2.1, r31.2.2.1, r31.2.2.2) y43).bind fun r48 =>
    (idx r6.kids r31.1).bind fun y61 =>
    some ((Pf.mk r6.kind r6.n r6.forms (lset r6.kids r31.1 r48.1)), (r48.2.1, r48.2.2.1, r48.2.2.2))
   else
    j13 r18.2.1 r18.2.2.1 r18.2.2.2
  else
   j13 z1.1 z1.2.1 z1.2.2

def s_l00Src_spoiltExpr_P (n : Nat) : Prop := ∀ (X0 : ID) (f2 : Bool) (l2 : List Int) (i3 : Int) (i4 : Int) (k5 : Int) (n5 : Int) (p5 : Nat) (e5 : Bool) (fs5 : List LF) (q5 : Nat) (f5 : Bool) (ks5 : List LP) {r : (Pf × (List Int × Int × Int))}, s_l00Src_spoiltExpr n (l2, i3, i4) (Pf.mk k5 n5 (fers fs5) (pers ks5)) = some r → ∀ (O : Heap) (tk : Nat), 2 ≤ tk → O X0 = some ⟨156, 3, true, [[.imm 0 1 f2 ((l2 : List Int).map fun n => [AV.int .u8 n]), .int .i64 i3, .int .i64 i4]]⟩ → ACalls Go.Proofs.Try.prog 78 [.optr X0 0 0, .agg [.int .i64 k5, .int .i64 n5, .imm p5 3 e5 (fcellss fs5), .imm q5 4 f5 (pcellss ks5)]] O tk (RetV O X0 tk (fun v o' tk' => ∃ r0', ∃ (c0f : Bool) (c0 : List Int) (c1 : Int) (c2 : Int) , r = (r0', (c0, c1, c2)) ∧ o' = ⟨156, 3, true, [[.imm 0 1 c0f ((c0 : List Int).map fun n => [AV.int .u8 n]), .int .i64 c1, .int .i64 c2]]⟩ ∧ VPg tk tk' r0' v))

set_option maxHeartbeats 20000000 in
set_option maxHeartbeats 20000000 in
set_option maxRecDepth 100000 in
theorem s_l00Src_spoiltExpr_st (n : Nat) (ih_s_l00Src_spoiltExpr : s_l00Src_spoiltExpr_P n) : s_l00Src_spoiltExpr_P (n + 1) := by
 intro X0 f2 l2 i3 i4 k5 n5 p5 e5 fs5 q5 f5 ks5 r hM O tk h2tk hX0
 rw [s_l00Src_spoiltExpr] at hM
 refine acalls_of_run_z Go.Proofs.Try.func78 rfl rfl [X0] [⟨156, 3, true, [[.imm 0 1 f2 ((l2 : List Int).map fun n => [AV.int .u8 n]), .int .i64 i3, .int .i64 i4]]⟩] (Bor.one hX0 rfl) [(0, .optr (.bor 0) 0 0), (1, .agg [.int .i64 k5, .int .i64 n5, .imm p5 3 e5 (fcellss fs5), .imm q5 4 f5 (pcellss ks5)])] (.cons (.bor 0 _ _ _ rfl) (.cons (.agg _) (.nil _))) (leb rfl) (by intro y h; simp only [List.mem_cons, List.not_mem_nil, or_false] at h; rcases h with rfl <;> simp [tch, tch0]) (by intro y h; simp [tch, tch0] at h; simp [h]) (fun S0 hO htk hfz hzf => ?_)
 refine run_sr ?_
 refine run_op rfl (box_step (d := 3) rfl rfl rfl rfl rfl) rfl (ltb rfl) ?_
 refine run_op rfl (alloc_step (d := 4) hG rfl rfl rfl) rfl (ltb rfl) ?_
 refine yN ?_
 refine run_sr ?_
 refine yD hG rfl ?_
 obtain ⟨r6, hg7, hM⟩ := bind_t hM
 refine yK rfl (s_l09Move_ok n k5 n5 p5 e5 fs5 q5 f5 ks5 0 0 hg7 _ _) (callK_retX (fun v tk8 (hle9 : tk ≤ tk8) h10 => ?_))
 obtain ⟨k11, n11, p11, e11, fs11, q11, f11, ks11, rfl, rfl, hf12⟩ := h10
 refine yS hG rfl ?_
 refine yN ?_
 refine run_seq ?_
 refine run_seq ?_
 obtain ⟨j13, hj249, hM⟩ := jn_t hM
 refine run_cutL [.code _, .code _] (fun σ' => ∃ (f14 : Bool) (l14 : List Int) (i15 : Int) (i16 : Int) (tkj13 : Nat), tk8 ≤ tkj13 ∧ j13 l14 i15 i16 = some r ∧ Sub ⟨Go.Proofs.Try.prog, S0, Go.Proofs.Try.f78.ntmps, [X0], fun _ => False, []⟩ σ' ⟨[(0, .optr (.bor 0) 0 0), (3, .optr (.loc 3) 0 0), (4, .optr (.loc 4) 0 0)], [(4, ⟨40, 4, true, [[.int .i64 0, .int .i64 0, .imm 0 3 true [], .imm 0 4 true []]]⟩), (3, ⟨40, 4, true, [[.int .i64 k11, .int .i64 n11, .imm p11 3 e11 (fcellss fs11), .imm q11 4 f11 (pcellss ks11)]]⟩)], [⟨156, 3, true, [[.imm 0 1 f14 ((l14 : List Int).map fun n => [AV.int .u8 n]), .int .i64 i15, .int .i64 i16]]⟩], O, tkj13⟩) rfl ?_ ?_
 ·refine run_region ?_
  refine yF hG rfl ?_
  refine yD hG rfl ?_
  refine run_pu rfl (lenImm_step hG rfl rfl rfl rfl (plen _)) rfl (ltb rfl) ?_
  refine yB rfl ?_
  refine yL rfl ?_
  refine run_splitd (i := 12) rfl (fun hb17 => ?_) (fun hb17 => ?_)
  ·replace hM := ite_t hb17 hM
   refine run_puG (on_of rfl rfl rfl rfl) (move_step (.inl rfl) rfl) rfl (ltb rfl) ?_
   obtain ⟨r18, hg19, hM⟩ := bind_t hM
   refine yG (on_of rfl rfl rfl rfl) rfl (s_l00Src_chance_ok (.bor 0) f2 l2 i3 i4 3 hg19 _ _ rfl) (callK_retV_bor (k := 0) rfl (fun v o' tk' h => by obtain ⟨_, _, _, _, _, rfl, rfl, _⟩ := h; rfl) (fun v o'29 tk20 (hle21 : tk8 ≤ tk20) h22 => ?_))
   obtain ⟨ra28, fc25, c25, c26, c27, rfl, rfl, rfl⟩ := h22
   refine run_puG (on_of rfl rfl rfl rfl) (aun_step rfl rfl rfl) rfl (ltb rfl) ?_
   refine yP rfl ?_
   refine yN ?_
   refine run_sub_code (σ' := ⟨[(0, .optr (.bor 0) 0 0), (3, .optr (.loc 3) 0 0), (4, .optr (.loc 4) 0 0), (16, .bool (!ra28))], [(4, ⟨40, 4, true, [[.int .i64 0, .int .i64 0, .imm 0 3 true [], .imm 0 4 true []]]⟩), (3, ⟨40, 4, true, [[.int .i64 k11, .int .i64 n11, .imm p11 3 e11 (fcellss fs11), .imm q11 4 f11 (pcellss ks11)]]⟩)], [⟨156, 3, true, [[.imm 0 1 fc25 ((c25 : List Int).map fun n => [AV.int .u8 n]), .int .i64 c26, .int .i64 c27]]⟩], O, tk20⟩) (Sub.env _ ⟨rfl, rfl, rfl, rfl, trivial⟩) ?_
   refine run_ifb rfl rfl (fun hb30 => ?_) (fun hb30 => ?_)
   ·replace hM := ite_t hb30 hM
    refine run_sr ?_
    refine yL rfl ?_
    refine yF hG rfl ?_
    refine yD hG rfl ?_
    refine run_pu rfl (lenImm_step hG rfl rfl rfl rfl (plen _)) rfl (ltb rfl) ?_
    obtain ⟨r31, hg32, hM⟩ := bind_t hM
    refine yK rfl (s_l00Src_next_ok (.bor 0) fc25 c25 c26 c27 (((pers ks11)).length : Int) hg32 _ _ rfl) (callK_retV_bor (k := 0) rfl (fun v o' tk' h => by obtain ⟨_, _, _, _, _, rfl, rfl, _⟩ := h; rfl) (fun v o'42 tk33 (hle34 : tk20 ≤ tk33) h35 => ?_))
    obtain ⟨ra41, fc38, c38, c39, c40, rfl, rfl, rfl⟩ := h35
    refine yR rfl ?_
    refine yN ?_
    refine run_seq ?_
    refine run_drawN (n := 12) mixed rfl ?_
    refine AAnyN.take (i := 0) rfl (by kernel_rfl) (by kernel_rfl) (by kernel_rfl) rfl rfl (ltb rfl) (fieldAddr_step hG rfl rfl rfl rfl rfl) ?_
    refine AAnyN.take (i := 2) rfl (by kernel_rfl) (by kernel_rfl) (by kernel_rfl) rfl rfl (ltb rfl) (move_step (.inl rfl) rfl) ?_
    refine AAnyN.take (i := 3) rfl (by kernel_rfl) (by kernel_rfl) (by kernel_rfl) rfl rfl (ltb rfl) (move_step (.inl rfl) rfl) ?_
    refine AAnyN.take (i := 4) rfl (by kernel_rfl) (by kernel_rfl) (by kernel_rfl) rfl rfl (ltb rfl) (fieldAddr_step hG rfl rfl rfl rfl rfl) ?_
    refine AAnyN.take (i := 6) rfl (by kernel_rfl) (by kernel_rfl) (by kernel_rfl) rfl rfl (ltb rfl) (move_step (.inl rfl) rfl) ?_
    refine AAnyN.each (rs := [1, 5]) (by kernel_rfl) (fun h => by cases h) (fun i hi => ?_)
    simp only [List.mem_cons, List.not_mem_nil, or_false] at hi
    rcases hi with rfl | rfl
    ·refine AOp.q (W := [.bor 0]) (by intro x hx; simp only [List.mem_cons, List.not_mem_nil, or_false] at hx; rcases hx with rfl <;> rfl) (AOp.rd rfl rfl rfl (ltb rfl) (aload_rd hG rfl rfl rfl (by first | (simp [ldok]; done) | exact List.not_mem_nil | trivial)) ?_)
     refine AAnyN.one (i := 5) (by kernel_rfl) (AOp.q (W := [.bor 0]) (by intro x hx; simp only [List.mem_cons, List.not_mem_nil, or_false] at hx; rcases hx with rfl <;> rfl) (AOp.rd rfl rfl rfl (ltb rfl) (aload_rd hG rfl rfl rfl (by first | (simp [ldok]; done) | exact List.not_mem_nil | trivial)) ?_))
     obtain ⟨y43, hy44, hM⟩ := bind_t hM
     obtain ⟨k45, n45, p45, e45, fs45, q45, f45, ks45, rfl, hc46, hi47⟩ := pidx (ks := ks11) hy44
     refine AAnyN.take (i := 7) rfl (by kernel_rfl) (by kernel_rfl) (by kernel_rfl) rfl rfl (ltb rfl) (indexImm_step hG rfl rfl rfl hi47 rfl rfl rfl rfl hc46) ?_
     refine AAnyN.one (i := 8) (by kernel_rfl) (AOp.q (W := [.bor 0]) (by intro x hx; simp only [List.mem_cons, List.not_mem_nil, or_false] at hx; rcases hx with rfl <;> rfl) (AOp.rd rfl rfl rfl (ltb rfl) (aload_rd hG rfl rfl rfl (by first | (simp [ldok]; done) | exact List.not_mem_nil | trivial)) ?_))
     obtain ⟨r48, hg49, hM⟩ := bind_t hM
     refine AAnyN.one (i := 9) (by kernel_rfl) (AOp.q (W := [.bor 0]) (by intro x hx; simp only [List.mem_cons, List.not_mem_nil, or_false] at hx; rcases hx with rfl <;> rfl) (AOp.call rfl rfl rfl rfl (ltb rfl) rfl rfl rfl yE (by intro x hx; have hx : x ∈ [ID.bor 0] := hx; simp only [List.mem_cons, List.not_mem_nil, or_false] at hx; subst hx; simp) (ih_s_l00Src_spoiltExpr (.bor 0) fc38 c38 c39 c40 k45 n45 p45 e45 fs45 q45 f45 ks45 hg49 _ _ (show 2 ≤ tk33 by omega) rfl) (callK_retV_bor (k := 0) rfl (fun v o' tk' h => by obtain ⟨_, _, _, _, _, rfl, rfl, _⟩ := h; rfl) (fun v o'59 tk50 (hle51 : tk33 ≤ tk50) h52 => ?_))))
     obtain ⟨ra58, fc55, c55, c56, c57, rfl, rfl, ⟨k53, n53, p53, e53, fs53, q53, f53, ks53, rfl, rfl, hf54⟩⟩ := h52
     obtain ⟨y61, hy62, hM⟩ := bind_t hM
     obtain ⟨k60, n60, p60, e60, fs60, q60, f60, ks60, rfl, hc63, hi64⟩ := pidx (ks := ks11) hy62
     try dsimp only [Pf.kids, Pf.forms, Pf.kind, Pf.n] at hM
     try rw [show (lset (pers ks11) ra41 (Pf.mk k53 n53 (fers fs53) (pers ks53)) : List Pf) = (pers (ks11.set (ra41 : Int).toNat (LP.mk k53 n53 p53 e53 fs53 q53 f53 ks53))) from pers_lset _ _ (LP.mk k53 n53 p53 e53 fs53 q53 f53 ks53)] at hM
     obtain ⟨hq65, hq66, hq67, hq68⟩ := Fr.pq (show Fr tk tk8 _ from (show Fr tk tk8 _ from hf12 rfl)) (ne_of_get (pget_lp hc63)) (by omega)
     refine AAnyN.put hG (k1 := 10) (k2 := 11) (by kernel_rfl) (by kernel_rfl) rfl rfl rfl rfl rfl rfl (ltb rfl) rfl rfl rfl rfl (by omega) rfl rfl rfl rfl rfl rfl rfl rfl rfl (fun j v hj => LP.av (LP.mk k53 n53 p53 e53 fs53 q53 f53 ks53) (by rw [LP.toks_eq]; exact Rg.avo (show Rg tk33 tk50 _ from hf54) (by omega) (by omega)) j v hj) (by omega) hc63 (pcellss_av _ hq68) (fun _ h => h) hO.symm hzf (show S0.tk ≤ q11 by omega) src_av (pcellss_set _ _ (LP.mk k53 n53 p53 e53 fs53 q53 f53 ks53)) (env' := [(0, .optr (.bor 0) 0 0), (3, .optr (.loc 3) 0 0), (4, .optr (.loc 4) 0 0), (16, .bool (!ra28)), (17, .optr (.bor 0) 0 0), (18, .optr (.loc 3) 0 3), (19, .imm q11 4 f11 (pcellss (ks11.set (ra41 : Int).toNat (LP.mk k53 n53 p53 e53 fs53 q53 f53 ks53)))), (20, .int .i64 (((pers ks11)).length : Int)), (21, .int .i64 ra41), (5, .int .i64 ra41), (22, .optr (.loc 3) 0 3), (24, .int .i64 ra41), (25, .optr (.bor 0) 0 0), (26, .optr (.loc 3) 0 3), (28, .int .i64 ra41), (23, .imm q11 4 f11 (pcellss (ks11.set (ra41 : Int).toNat (LP.mk k53 n53 p53 e53 fs53 q53 f53 ks53)))), (27, .imm q11 4 f11 (pcellss (ks11.set (ra41 : Int).toNat (LP.mk k53 n53 p53 e53 fs53 q53 f53 ks53))))]) (l' := [(4, ⟨40, 4, true, [[.int .i64 0, .int .i64 0, .imm 0 3 true [], .imm 0 4 true []]]⟩), (3, ⟨40, 4, true, [[.int .i64 k11, .int .i64 n11, .imm p11 3 e11 (fcellss fs11), .imm q11 4 f11 (pcellss (ks11.set (ra41 : Int).toNat (LP.mk k53 n53 p53 e53 fs53 q53 f53 ks53)))]]⟩)]) (.cons _ _ _ _ rfl (.optr _ _ _) (.cons _ _ _ _ rfl (.optr _ _ _) (.cons _ _ _ _ rfl (.optr _ _ _) (.cons _ _ _ _ rfl (Tn.av (.bool _)) (.cons _ _ _ _ rfl (.optr _ _ _) (.cons _ _ _ _ rfl (.optr _ _ _) (.cons _ _ _ _ rfl (Tn.turn ⟨rfl, rfl⟩) (.cons _ _ _ _ rfl (Tn.av (.int _ _)) (.cons _ _ _ _ rfl (Tn.av (.int _ _)) (.cons _ _ _ _ rfl (Tn.av (.int _ _)) (.cons _ _ _ _ rfl (.optr _ _ _) (.cons _ _ _ _ rfl (Tn.av (.int _ _)) (.cons _ _ _ _ rfl (.optr _ _ _) (.cons _ _ _ _ rfl (.optr _ _ _) (.cons _ _ _ _ rfl (Tn.av (.int _ _)) (.cons _ _ _ _ rfl (Tn.turn ⟨rfl, rfl⟩) (.cons _ _ _ _ rfl (Tn.turn ⟨rfl, rfl⟩) .nil))))))))))))))))) (.cons _ _ _ _ _ (TnCs.box (.cons _ _ _ _ (Tn.av (.int _ _)) (.cons _ _ _ _ (Tn.av (.int _ _)) (.cons _ _ _ _ (Tn.av (.imm _ _ _ _ (fun h => absurd rfl h) (fun i e j x hi => by simp at hi))) (.cons _ _ _ _ (Tn.av (.imm _ _ _ _ (fun h => absurd rfl h) (fun i e j x hi => by simp at hi))) .nil)))) rfl) (.cons _ _ _ _ _ (TnCs.box (.cons _ _ _ _ (Tn.av (.int _ _)) (.cons _ _ _ _ (Tn.av (.int _ _)) (.cons _ _ _ _ (Tn.av (fs_av hq67)) (.cons _ _ _ _ (Tn.turn ⟨rfl, rfl⟩) .nil)))) rfl) .nil)) ?_
     refine AAnyN.done (by kernel_rfl) ?_
     refine run_sub_code (σ' := ⟨[(0, .optr (.bor 0) 0 0), (3, .optr (.loc 3) 0 0), (4, .optr (.loc 4) 0 0)], [(4, ⟨40, 4, true, [[.int .i64 0, .int .i64 0, .imm 0 3 true [], .imm 0 4 true []]]⟩), (3, ⟨40, 4, true, [[.int .i64 k11, .int .i64 n11, .imm p11 3 e11 (fcellss fs11), .imm q11 4 f11 (pcellss (ks11.set (ra41 : Int).toNat (LP.mk k53 n53 p53 e53 fs53 q53 f53 ks53)))]]⟩)], [⟨156, 3, true, [[.imm 0 1 fc55 ((c55 : List Int).map fun n => [AV.int .u8 n]), .int .i64 c56, .int .i64 c57]]⟩], O, tk50⟩) (Sub.env _ ⟨rfl, rfl, rfl, trivial⟩) ?_
     refine run_sr ?_
     refine yD hG rfl ?_
     refine yS hG rfl ?_
     refine yN ?_
     refine run_ret_to ?_
     refine cut_ret ?_
     replace hM := some_t hM
     subst hM
     refine fin_x hG rfl rfl rfl (v' := .agg [.int .i64 k11, .int .i64 n11, .imm p11 3 e11 (fcellss fs11), .imm q11 4 f11 (pcellss (ks11.set (ra41 : Int).toNat (LP.mk k53 n53 p53 e53 fs53 q53 f53 ks53)))]) (by rfl) ⟨_, ⟨156, 3, true, [[.imm 0 1 fc55 ((c55 : List Int).map fun n => [AV.int .u8 n]), .int .i64 c56, .int .i64 c57]]⟩, rfl, rfl, (show tk ≤ tk50 by omega), ⟨_, fc55, c55, c56, c57, rfl, rfl, ⟨k11, n11, p11, e11, fs11, q11, f11, (ks11.set (ra41 : Int).toNat (LP.mk k53 n53 p53 e53 fs53 q53 f53 ks53)), rfl, rfl, (show Rg tk tk50 _ from (Rg.mono (show Rg tk tk50 _ from (show Rg tk tk50 _ from Rg.pset (Fr.rg (show Fr tk tk8 _ from (show Fr tk tk8 _ from hf12 rfl)) (by omega) (by omega)) (pget_lp hc63) (t' := LP.mk k53 n53 p53 e53 fs53 q53 f53 ks53) (by rw [LP.toks_eq]; exact Rg.mono (show Rg tk33 tk50 _ from hf54) (by omega) (by omega)))) (by omega) (by omega)))⟩⟩⟩
    refine AOp.q (W := [.bor 0]) (by intro x hx; simp only [List.mem_cons, List.not_mem_nil, or_false] at hx; rcases hx with rfl <;> rfl) (AOp.rd rfl rfl rfl (ltb rfl) (aload_rd hG rfl rfl rfl (by first | (simp [ldok]; done) | exact List.not_mem_nil | trivial)) ?_)
    obtain ⟨y69, hy70, hM⟩ := bind_t hM
    obtain ⟨k71, n71, p71, e71, fs71, q71, f71, ks71, rfl, hc72, hi73⟩ := pidx (ks := ks11) hy70
    refine AAnyN.take (i := 7) rfl (by kernel_rfl) (by kernel_rfl) (by kernel_rfl) rfl rfl (ltb rfl) (indexImm_step hG rfl rfl rfl hi73 rfl rfl rfl rfl hc72) ?_
    refine AAnyN.each (rs := [1, 8]) (by kernel_rfl) (fun h => by cases h) (fun i hi => ?_)
    simp only [List.mem_cons, List.not_mem_nil, or_false] at hi
    rcases hi with rfl | rfl
    ·refine AOp.q (W := [.bor 0]) (by intro x hx; simp only [List.mem_cons, List.not_mem_nil, or_false] at hx; rcases hx with rfl <;> rfl) (AOp.rd rfl rfl rfl (ltb rfl) (aload_rd hG rfl rfl rfl (by first | (simp [ldok]; done) | exact List.not_mem_nil | trivial)) ?_)
     refine AAnyN.one (i := 8) (by kernel_rfl) (AOp.q (W := [.bor 0]) (by intro x hx; simp only [List.mem_cons, List.not_mem_nil, or_false] at hx; rcases hx with rfl <;> rfl) (AOp.rd rfl rfl rfl (ltb rfl) (aload_rd hG rfl rfl rfl (by first | (simp [ldok]; done) | exact List.not_mem_nil | trivial)) ?_))
     obtain ⟨r74, hg75, hM⟩ := bind_t hM
     refine AAnyN.one (i := 9) (by kernel_rfl) (AOp.q (W := [.bor 0]) (by intro x hx; simp only [List.mem_cons, List.not_mem_nil, or_false] at hx; rcases hx with rfl <;> rfl) (AOp.call rfl rfl rfl rfl (ltb rfl) rfl rfl rfl yE (by intro x hx; have hx : x ∈ [ID.bor 0] := hx; simp only [List.mem_cons, List.not_mem_nil, or_false] at hx; subst hx; simp) (ih_s_l00Src_spoiltExpr (.bor 0) fc38 c38 c39 c40 k71 n71 p71 e71 fs71 q71 f71 ks71 hg75 _ _ (show 2 ≤ tk33 by omega) rfl) (callK_retV_bor (k := 0) rfl (fun v o' tk' h => by obtain ⟨_, _, _, _, _, rfl, rfl, _⟩ := h; rfl) (fun v o'85 tk76 (hle77 : tk33 ≤ tk76) h78 => ?_))))
     obtain ⟨ra84, fc81, c81, c82, c83, rfl, rfl, ⟨k79, n79, p79, e79, fs79, q79, f79, ks79, rfl, rfl, hf80⟩⟩ := h78
     obtain ⟨y87, hy88, hM⟩ := bind_t hM
     obtain ⟨k86, n86, p86, e86, fs86, q86, f86, ks86, rfl, hc89, hi90⟩ := pidx (ks := ks11) hy88
     try dsimp only [Pf.kids, Pf.forms, Pf.kind, Pf.n] at hM
     try rw [show (lset (pers ks11) ra41 (Pf.mk k79 n79 (fers fs79) (pers ks79)) : List Pf) = (pers (ks11.set (ra41 : Int).toNat (LP.mk k79 n79 p79 e79 fs79 q79 f79 ks79))) from pers_lset _ _ (LP.mk k79 n79 p79 e79 fs79 q79 f79 ks79)] at hM
     obtain ⟨hq91, hq92, hq93, hq94⟩ := Fr.pq (show Fr tk tk8 _ from (show Fr tk tk8 _ from hf12 rfl)) (ne_of_get (pget_lp hc89)) (by omega)
     refine AAnyN.put hG (k1 := 10) (k2 := 11) (by kernel_rfl) (by kernel_rfl) rfl rfl rfl rfl rfl rfl (ltb rfl) rfl rfl rfl rfl (by omega) rfl rfl rfl rfl rfl rfl rfl rfl rfl (fun j v hj => LP.av (LP.mk k79 n79 p79 e79 fs79 q79 f79 ks79) (by rw [LP.toks_eq]; exact Rg.avo (show Rg tk33 tk76 _ from hf80) (by omega) (by omega)) j v hj) (by omega) hc89 (pcellss_av _ hq94) (fun _ h => h) hO.symm hzf (show S0.tk ≤ q11 by omega) src_av (pcellss_set _ _ (LP.mk k79 n79 p79 e79 fs79 q79 f79 ks79)) (env' := [(0, .optr (.bor 0) 0 0), (3, .optr (.loc 3) 0 0), (4, .optr (.loc 4) 0 0), (16, .bool (!ra28)), (17, .optr (.bor 0) 0 0), (18, .optr (.loc 3) 0 3), (19, .imm q11 4 f11 (pcellss (ks11.set (ra41 : Int).toNat (LP.mk k79 n79 p79 e79 fs79 q79 f79 ks79)))), (20, .int .i64 (((pers ks11)).length : Int)), (21, .int .i64 ra41), (5, .int .i64 ra41), (22, .optr (.loc 3) 0 3), (24, .int .i64 ra41), (25, .optr (.bor 0) 0 0), (26, .optr (.loc 3) 0 3), (28, .int .i64 ra41), (27, .imm q11 4 f11 (pcellss (ks11.set (ra41 : Int).toNat (LP.mk k79 n79 p79 e79 fs79 q79 f79 ks79)))), (23, .imm q11 4 f11 (pcellss (ks11.set (ra41 : Int).toNat (LP.mk k79 n79 p79 e79 fs79 q79 f79 ks79))))]) (l' := [(4, ⟨40, 4, true, [[.int .i64 0, .int .i64 0, .imm 0 3 true [], .imm 0 4 true []]]⟩), (3, ⟨40, 4, true, [[.int .i64 k11, .int .i64 n11, .imm p11 3 e11 (fcellss fs11), .imm q11 4 f11 (pcellss (ks11.set (ra41 : Int).toNat (LP.mk k79 n79 p79 e79 fs79 q79 f79 ks79)))]]⟩)]) (.cons _ _ _ _ rfl (.optr _ _ _) (.cons _ _ _ _ rfl (.optr _ _ _) (.cons _ _ _ _ rfl (.optr _ _ _) (.cons _ _ _ _ rfl (Tn.av (.bool _)) (.cons _ _ _ _ rfl (.optr _ _ _) (.cons _ _ _ _ rfl (.optr _ _ _) (.cons _ _ _ _ rfl (Tn.turn ⟨rfl, rfl⟩) (.cons _ _ _ _ rfl (Tn.av (.int _ _)) (.cons _ _ _ _ rfl (Tn.av (.int _ _)) (.cons _ _ _ _ rfl (Tn.av (.int _ _)) (.cons _ _ _ _ rfl (.optr _ _ _) (.cons _ _ _ _ rfl (Tn.av (.int _ _)) (.cons _ _ _ _ rfl (.optr _ _ _) (.cons _ _ _ _ rfl (.optr _ _ _) (.cons _ _ _ _ rfl (Tn.av (.int _ _)) (.cons _ _ _ _ rfl (Tn.turn ⟨rfl, rfl⟩) (.cons _ _ _ _ rfl (Tn.turn ⟨rfl, rfl⟩) .nil))))))))))))))))) (.cons _ _ _ _ _ (TnCs.box (.cons _ _ _ _ (Tn.av (.int _ _)) (.cons _ _ _ _ (Tn.av (.int _ _)) (.cons _ _ _ _ (Tn.av (.imm _ _ _ _ (fun h => absurd rfl h) (fun i e j x hi => by simp at hi))) (.cons _ _ _ _ (Tn.av (.imm _ _ _ _ (fun h => absurd rfl h) (fun i e j x hi => by simp at hi))) .nil)))) rfl) (.cons _ _ _ _ _ (TnCs.box (.cons _ _ _ _ (Tn.av (.int _ _)) (.cons _ _ _ _ (Tn.av (.int _ _)) (.cons _ _ _ _ (Tn.av (fs_av hq93)) (.cons _ _ _ _ (Tn.turn ⟨rfl, rfl⟩) .nil)))) rfl) .nil)) ?_
     refine AAnyN.done (by kernel_rfl) ?_
     refine run_sub_code (σ' := ⟨[(0, .optr (.bor 0) 0 0), (3, .optr (.loc 3) 0 0), (4, .optr (.loc 4) 0 0)], [(4, ⟨40, 4, true, [[.int .i64 0, .int .i64 0, .imm 0 3 true [], .imm 0 4 true []]]⟩), (3, ⟨40, 4, true, [[.int .i64 k11, .int .i64 n11, .imm p11 3 e11 (fcellss fs11), .imm q11 4 f11 (pcellss (ks11.set (ra41 : Int).toNat (LP.mk k79 n79 p79 e79 fs79 q79 f79 ks79)))]]⟩)], [⟨156, 3, true, [[.imm 0 1 fc81 ((c81 : List Int).map fun n => [AV.int .u8 n]), .int .i64 c82, .int .i64 c83]]⟩], O, tk76⟩) (Sub.env _ ⟨rfl, rfl, rfl, trivial⟩) ?_
     refine run_sr ?_
     refine yD hG rfl ?_
     refine yS hG rfl ?_
     refine yN ?_
     refine run_ret_to ?_
     refine cut_ret ?_
     replace hM := some_t hM
     subst hM
     refine fin_x hG rfl rfl rfl (v' := .agg [.int .i64 k11, .int .i64 n11, .imm p11 3 e11 (fcellss fs11), .imm q11 4 f11 (pcellss (ks11.set (ra41 : Int).toNat (LP.mk k79 n79 p79 e79 fs79 q79 f79 ks79)))]) (by rfl) ⟨_, ⟨156, 3, true, [[.imm 0 1 fc81 ((c81 : List Int).map fun n => [AV.int .u8 n]), .int .i64 c82, .int .i64 c83]]⟩, rfl, rfl, (show tk ≤ tk76 by omega), ⟨_, fc81, c81, c82, c83, rfl, rfl, ⟨k11, n11, p11, e11, fs11, q11, f11, (ks11.set (ra41 : Int).toNat (LP.mk k79 n79 p79 e79 fs79 q79 f79 ks79)), rfl, rfl, (show Rg tk tk76 _ from (Rg.mono (show Rg tk tk76 _ from (show Rg tk tk76 _ from Rg.pset (Fr.rg (show Fr tk tk8 _ from (show Fr tk tk8 _ from hf12 rfl)) (by omega) (by omega)) (pget_lp hc89) (t' := LP.mk k79 n79 p79 e79 fs79 q79 f79 ks79) (by rw [LP.toks_eq]; exact Rg.mono (show Rg tk33 tk76 _ from hf80) (by omega) (by omega)))) (by omega) (by omega)))⟩⟩⟩
    refine AOp.q (W := [.bor 0]) (by intro x hx; simp only [List.mem_cons, List.not_mem_nil, or_false] at hx; rcases hx with rfl <;> rfl) (AOp.rd rfl rfl rfl (ltb rfl) (aload_rd hG rfl rfl rfl (by first | (simp [ldok]; done) | exact List.not_mem_nil | trivial)) ?_)
    refine AAnyN.each (rs := [1, 9]) (by kernel_rfl) (fun h => by cases h) (fun i hi => ?_)
    simp only [List.mem_cons, List.not_mem_nil, or_false] at hi
    rcases hi with rfl | rfl
    ·refine AOp.q (W := [.bor 0]) (by intro x hx; simp only [List.mem_cons, List.not_mem_nil, or_false] at hx; rcases hx with rfl <;> rfl) (AOp.rd rfl rfl rfl (ltb rfl) (aload_rd hG rfl rfl rfl (by first | (simp [ldok]; done) | exact List.not_mem_nil | trivial)) ?_)
     obtain ⟨r95, hg96, hM⟩ := bind_t hM
     refine AAnyN.one (i := 9) (by kernel_rfl) (AOp.q (W := [.bor 0]) (by intro x hx; simp only [List.mem_cons, List.not_mem_nil, or_false] at hx; rcases hx with rfl <;> rfl) (AOp.call rfl rfl rfl rfl (ltb rfl) rfl rfl rfl yE (by intro x hx; have hx : x ∈ [ID.bor 0] := hx; simp only [List.mem_cons, List.not_mem_nil, or_false] at hx; subst hx; simp) (ih_s_l00Src_spoiltExpr (.bor 0) fc38 c38 c39 c40 k71 n71 p71 e71 fs71 q71 f71 ks71 hg96 _ _ (show 2 ≤ tk33 by omega) rfl) (callK_retV_bor (k := 0) rfl (fun v o' tk' h => by obtain ⟨_, _, _, _, _, rfl, rfl, _⟩ := h; rfl) (fun v o'106 tk97 (hle98 : tk33 ≤ tk97) h99 => ?_))))
     obtain ⟨ra105, fc102, c102, c103, c104, rfl, rfl, ⟨k100, n100, p100, e100, fs100, q100, f100, ks100, rfl, rfl, hf101⟩⟩ := h99
     obtain ⟨y108, hy109, hM⟩ := bind_t hM
     obtain ⟨k107, n107, p107, e107, fs107, q107, f107, ks107, rfl, hc110, hi111⟩ := pidx (ks := ks11) hy109
     try dsimp only [Pf.kids, Pf.forms, Pf.kind, Pf.n] at hM
     try rw [show (lset (pers ks11) ra41 (Pf.mk k100 n100 (fers fs100) (pers ks100)) : List Pf) = (pers (ks11.set (ra41 : Int).toNat (LP.mk k100 n100 p100 e100 fs100 q100 f100 ks100))) from pers_lset _ _ (LP.mk k100 n100 p100 e100 fs100 q100 f100 ks100)] at hM
     obtain ⟨hq112, hq113, hq114, hq115⟩ := Fr.pq (show Fr tk tk8 _ from (show Fr tk tk8 _ from hf12 rfl)) (ne_of_get (pget_lp hc110)) (by omega)
     refine AAnyN.put hG (k1 := 10) (k2 := 11) (by kernel_rfl) (by kernel_rfl) rfl rfl rfl rfl rfl rfl (ltb rfl) rfl rfl rfl rfl (by omega) rfl rfl rfl rfl rfl rfl rfl rfl rfl (fun j v hj => LP.av (LP.mk k100 n100 p100 e100 fs100 q100 f100 ks100) (by rw [LP.toks_eq]; exact Rg.avo (show Rg tk33 tk97 _ from hf101) (by omega) (by omega)) j v hj) (by omega) hc110 (pcellss_av _ hq115) (fun _ h => h) hO.symm hzf (show S0.tk ≤ q11 by omega) src_av (pcellss_set _ _ (LP.mk k100 n100 p100 e100 fs100 q100 f100 ks100)) (env' := [(0, .optr (.bor 0) 0 0), (3, .optr (.loc 3) 0 0), (4, .optr (.loc 4) 0 0), (16, .bool (!ra28)), (17, .optr (.bor 0) 0 0), (18, .optr (.loc 3) 0 3), (19, .imm q11 4 f11 (pcellss (ks11.set (ra41 : Int).toNat (LP.mk k100 n100 p100 e100 fs100 q100 f100 ks100)))), (20, .int .i64 (((pers ks11)).length : Int)), (21, .int .i64 ra41), (5, .int .i64 ra41), (22, .optr (.loc 3) 0 3), (24, .int .i64 ra41), (25, .optr (.bor 0) 0 0), (26, .optr (.loc 3) 0 3), (28, .int .i64 ra41), (27, .imm q11 4 f11 (pcellss (ks11.set (ra41 : Int).toNat (LP.mk k100 n100 p100 e100 fs100 q100 f100 ks100)))), (23, .imm q11 4 f11 (pcellss (ks11.set (ra41 : Int).toNat (LP.mk k100 n100 p100 e100 fs100 q100 f100 ks100))))]) (l' := [(4, ⟨40, 4, true, [[.int .i64 0, .int .i64 0, .imm 0 3 true [], .imm 0 4 true []]]⟩), (3, ⟨40, 4, true, [[.int .i64 k11, .int .i64 n11, .imm p11 3 e11 (fcellss fs11), .imm q11 4 f11 (pcellss (ks11.set (ra41 : Int).toNat (LP.mk k100 n100 p100 e100 fs100 q100 f100 ks100)))]]⟩)]) (.cons _ _ _ _ rfl (.optr _ _ _) (.cons _ _ _ _ rfl (.optr _ _ _) (.cons _ _ _ _ rfl (.optr _ _ _) (.cons _ _ _ _ rfl (Tn.av (.bool _)) (.cons _ _ _ _ rfl (.optr _ _ _) (.cons _ _ _ _ rfl (.optr _ _ _) (.cons _ _ _ _ rfl (Tn.turn ⟨rfl, rfl⟩) (.cons _ _ _ _ rfl (Tn.av (.int _ _)) (.cons _ _ _ _ rfl (Tn.av (.int _ _)) (.cons _ _ _ _ rfl (Tn.av (.int _ _)) (.cons _ _ _ _ rfl (.optr _ _ _) (.cons _ _ _ _ rfl (Tn.av (.int _ _)) (.cons _ _ _ _ rfl (.optr _ _ _) (.cons _ _ _ _ rfl (.optr _ _ _) (.cons _ _ _ _ rfl (Tn.av (.int _ _)) (.cons _ _ _ _ rfl (Tn.turn ⟨rfl, rfl⟩) (.cons _ _ _ _ rfl (Tn.turn ⟨rfl, rfl⟩) .nil))))))))))))))))) (.cons _ _ _ _ _ (TnCs.box (.cons _ _ _ _ (Tn.av (.int _ _)) (.cons _ _ _ _ (Tn.av (.int _ _)) (.cons _ _ _ _ (Tn.av (.imm _ _ _ _ (fun h => absurd rfl h) (fun i e j x hi => by simp at hi))) (.cons _ _ _ _ (Tn.av (.imm _ _ _ _ (fun h => absurd rfl h) (fun i e j x hi => by simp at hi))) .nil)))) rfl) (.cons _ _ _ _ _ (TnCs.box (.cons _ _ _ _ (Tn.av (.int _ _)) (.cons _ _ _ _ (Tn.av (.int _ _)) (.cons _ _ _ _ (Tn.av (fs_av hq114)) (.cons _ _ _ _ (Tn.turn ⟨rfl, rfl⟩) .nil)))) rfl) .nil)) ?_
     refine AAnyN.done (by kernel_rfl) ?_
     refine run_sub_code (σ' := ⟨[(0, .optr (.bor 0) 0 0), (3, .optr (.loc 3) 0 0), (4, .optr (.loc 4) 0 0)], [(4, ⟨40, 4, true, [[.int .i64 0, .int .i64 0, .imm 0 3 true [], .imm 0 4 true []]]⟩), (3, ⟨40, 4, true, [[.int .i64 k11, .int .i64 n11, .imm p11 3 e11 (fcellss fs11), .imm q11 4 f11 (pcellss (ks11.set (ra41 : Int).toNat (LP.mk k100 n100 p100 e100 fs100 q100 f100 ks100)))]]⟩)], [⟨156, 3, true, [[.imm 0 1 fc102 ((c102 : List Int).map fun n => [AV.int .u8 n]), .int .i64 c103, .int .i64 c104]]⟩], O, tk97⟩) (Sub.env _ ⟨rfl, rfl, rfl, trivial⟩) ?_
     refine run_sr ?_
     refine yD hG rfl ?_
     refine yS hG rfl ?_
     refine yN ?_
     refine run_ret_to ?_
     refine cut_ret ?_
     replace hM := some_t hM
     subst hM
     refine fin_x hG rfl rfl rfl (v' := .agg [.int .i64 k11, .int .i64 n11, .imm p11 3 e11 (fcellss fs11), .imm q11 4 f11 (pcellss (ks11.set (ra41 : Int).toNat (LP.mk k100 n100 p100 e100 fs100 q100 f100 ks100)))]) (by rfl) ⟨_, ⟨156, 3, true, [[.imm 0 1 fc102 ((c102 : List Int).map fun n => [AV.int .u8 n]), .int .i64 c103, .int .i64 c104]]⟩, rfl, rfl, (show tk ≤ tk97 by omega), ⟨_, fc102, c102, c103, c104, rfl, rfl, ⟨k11, n11, p11, e11, fs11, q11, f11, (ks11.set (ra41 : Int).toNat (LP.mk k100 n100 p100 e100 fs100 q100 f100 ks100)), rfl, rfl, (show Rg tk tk97 _ from (Rg.mono (show Rg tk tk97 _ from (show Rg tk tk97 _ from Rg.pset (Fr.rg (show Fr tk tk8 _ from (show Fr tk tk8 _ from hf12 rfl)) (by omega) (by omega)) (pget_lp hc110) (t' := LP.mk k100 n100 p100 e100 fs100 q100 f100 ks100) (by rw [LP.toks_eq]; exact Rg.mono (show Rg tk33 tk97 _ from hf101) (by omega) (by omega)))) (by omega) (by omega)))⟩⟩⟩
    obtain ⟨r116, hg117, hM⟩ := bind_t hM
    refine AOp.q (W := [.bor 0]) (by intro x hx; simp only [List.mem_cons, List.not_mem_nil, or_false] at hx; rcases hx with rfl <;> rfl) (AOp.call rfl rfl rfl rfl (ltb rfl) rfl rfl rfl yE (by intro x hx; have hx : x ∈ [ID.bor 0] := hx; simp only [List.mem_cons, List.not_mem_nil, or_false] at hx; subst hx; simp) (ih_s_l00Src_spoiltExpr (.bor 0) fc38 c38 c39 c40 k71 n71 p71 e71 fs71 q71 f71 ks71 hg117 _ _ (show 2 ≤ tk33 by omega) rfl) (callK_retV_bor (k := 0) rfl (fun v o' tk' h => by obtain ⟨_, _, _, _, _, rfl, rfl, _⟩ := h; rfl) (fun v o'127 tk118 (hle119 : tk33 ≤ tk118) h120 => ?_)))
    obtain ⟨ra126, fc123, c123, c124, c125, rfl, rfl, ⟨k121, n121, p121, e121, fs121, q121, f121, ks121, rfl, rfl, hf122⟩⟩ := h120
    refine AAnyN.one (i := 1) (by kernel_rfl) (AOp.q (W := [.bor 0]) (by intro x hx; simp only [List.mem_cons, List.not_mem_nil, or_false] at hx; rcases hx with rfl <;> rfl) (AOp.rd rfl rfl rfl (ltb rfl) (aload_rd hG rfl rfl rfl (by first | (simp [ldok]; done) | exact List.not_mem_nil | trivial)) ?_))
    obtain ⟨y129, hy130, hM⟩ := bind_t hM
    obtain ⟨k128, n128, p128, e128, fs128, q128, f128, ks128, rfl, hc131, hi132⟩ := pidx (ks := ks11) hy130
    try dsimp only [Pf.kids, Pf.forms, Pf.kind, Pf.n] at hM
    try rw [show (lset (pers ks11) ra41 (Pf.mk k121 n121 (fers fs121) (pers ks121)) : List Pf) = (pers (ks11.set (ra41 : Int).toNat (LP.mk k121 n121 p121 e121 fs121 q121 f121 ks121))) from pers_lset _ _ (LP.mk k121 n121 p121 e121 fs121 q121 f121 ks121)] at hM
    obtain ⟨hq133, hq134, hq135, hq136⟩ := Fr.pq (show Fr tk tk8 _ from (show Fr tk tk8 _ from hf12 rfl)) (ne_of_get (pget_lp hc131)) (by omega)
    refine AAnyN.put hG (k1 := 10) (k2 := 11) (by kernel_rfl) (by kernel_rfl) rfl rfl rfl rfl rfl rfl (ltb rfl) rfl rfl rfl rfl (by omega) rfl rfl rfl rfl rfl rfl rfl rfl rfl (fun j v hj => LP.av (LP.mk k121 n121 p121 e121 fs121 q121 f121 ks121) (by rw [LP.toks_eq]; exact Rg.avo (show Rg tk33 tk118 _ from hf122) (by omega) (by omega)) j v hj) (by omega) hc131 (pcellss_av _ hq136) (fun _ h => h) hO.symm hzf (show S0.tk ≤ q11 by omega) src_av (pcellss_set _ _ (LP.mk k121 n121 p121 e121 fs121 q121 f121 ks121)) (env' := [(0, .optr (.bor 0) 0 0), (3, .optr (.loc 3) 0 0), (4, .optr (.loc 4) 0 0), (16, .bool (!ra28)), (17, .optr (.bor 0) 0 0), (18, .optr (.loc 3) 0 3), (19, .imm q11 4 f11 (pcellss (ks11.set (ra41 : Int).toNat (LP.mk k121 n121 p121 e121 fs121 q121 f121 ks121)))), (20, .int .i64 (((pers ks11)).length : Int)), (21, .int .i64 ra41), (5, .int .i64 ra41), (22, .optr (.loc 3) 0 3), (24, .int .i64 ra41), (25, .optr (.bor 0) 0 0), (26, .optr (.loc 3) 0 3), (28, .int .i64 ra41), (27, .imm q11 4 f11 (pcellss (ks11.set (ra41 : Int).toNat (LP.mk k121 n121 p121 e121 fs121 q121 f121 ks121)))), (23, .imm q11 4 f11 (pcellss (ks11.set (ra41 : Int).toNat (LP.mk k121 n121 p121 e121 fs121 q121 f121 ks121))))]) (l' := [(4, ⟨40, 4, true, [[.int .i64 0, .int .i64 0, .imm 0 3 true [], .imm 0 4 true []]]⟩), (3, ⟨40, 4, true, [[.int .i64 k11, .int .i64 n11, .imm p11 3 e11 (fcellss fs11), .imm q11 4 f11 (pcellss (ks11.set (ra41 : Int).toNat (LP.mk k121 n121 p121 e121 fs121 q121 f121 ks121)))]]⟩)]) (.cons _ _ _ _ rfl (.optr _ _ _) (.cons _ _ _ _ rfl (.optr _ _ _) (.cons _ _ _ _ rfl (.optr _ _ _) (.cons _ _ _ _ rfl (Tn.av (.bool _)) (.cons _ _ _ _ rfl (.optr _ _ _) (.cons _ _ _ _ rfl (.optr _ _ _) (.cons _ _ _ _ rfl (Tn.turn ⟨rfl, rfl⟩) (.cons _ _ _ _ rfl (Tn.av (.int _ _)) (.cons _ _ _ _ rfl (Tn.av (.int _ _)) (.cons _ _ _ _ rfl (Tn.av (.int _ _)) (.cons _ _ _ _ rfl (.optr _ _ _) (.cons _ _ _ _ rfl (Tn.av (.int _ _)) (.cons _ _ _ _ rfl (.optr _ _ _) (.cons _ _ _ _ rfl (.optr _ _ _) (.cons _ _ _ _ rfl (Tn.av (.int _ _)) (.cons _ _ _ _ rfl (Tn.turn ⟨rfl, rfl⟩) (.cons _ _ _ _ rfl (Tn.turn ⟨rfl, rfl⟩) .nil))))))))))))))))) (.cons _ _ _ _ _ (TnCs.box (.cons _ _ _ _ (Tn.av (.int _ _)) (.cons _ _ _ _ (Tn.av (.int _ _)) (.cons _ _ _ _ (Tn.av (.imm _ _ _ _ (fun h => absurd rfl h) (fun i e j x hi => by simp at hi))) (.cons _ _ _ _ (Tn.av (.imm _ _ _ _ (fun h => absurd rfl h) (fun i e j x hi => by simp at hi))) .nil)))) rfl) (.cons _ _ _ _ _ (TnCs.box (.cons _ _ _ _ (Tn.av (.int _ _)) (.cons _ _ _ _ (Tn.av (.int _ _)) (.cons _ _ _ _ (Tn.av (fs_av hq135)) (.cons _ _ _ _ (Tn.turn ⟨rfl, rfl⟩) .nil)))) rfl) .nil)) ?_
    refine AAnyN.done (by kernel_rfl) ?_
    refine run_sub_code (σ' := ⟨[(0, .optr (.bor 0) 0 0), (3, .optr (.loc 3) 0 0), (4, .optr (.loc 4) 0 0)], [(4, ⟨40, 4, true, [[.int .i64 0, .int .i64 0, .imm 0 3 true [], .imm 0 4 true []]]⟩), (3, ⟨40, 4, true, [[.int .i64 k11, .int .i64 n11, .imm p11 3 e11 (fcellss fs11), .imm q11 4 f11 (pcellss (ks11.set (ra41 : Int).toNat (LP.mk k121 n121 p121 e121 fs121 q121 f121 ks121)))]]⟩)], [⟨156, 3, true, [[.imm 0 1 fc123 ((c123 : List Int).map fun n => [AV.int .u8 n]), .int .i64 c124, .int .i64 c125]]⟩], O, tk118⟩) (Sub.env _ ⟨rfl, rfl, rfl, trivial⟩) ?_
    refine run_sr ?_
    refine yD hG rfl ?_
    refine yS hG rfl ?_
    refine yN ?_
    refine run_ret_to ?_
    refine cut_ret ?_
    replace hM := some_t hM
    subst hM
    refine fin_x hG rfl rfl rfl (v' := .agg [.int .i64 k11, .int .i64 n11, .imm p11 3 e11 (fcellss fs11), .imm q11 4 f11 (pcellss (ks11.set (ra41 : Int).toNat (LP.mk k121 n121 p121 e121 fs121 q121 f121 ks121)))]) (by rfl) ⟨_, ⟨156, 3, true, [[.imm 0 1 fc123 ((c123 : List Int).map fun n => [AV.int .u8 n]), .int .i64 c124, .int .i64 c125]]⟩, rfl, rfl, (show tk ≤ tk118 by omega), ⟨_, fc123, c123, c124, c125, rfl, rfl, ⟨k11, n11, p11, e11, fs11, q11, f11, (ks11.set (ra41 : Int).toNat (LP.mk k121 n121 p121 e121 fs121 q121 f121 ks121)), rfl, rfl, (show Rg tk tk118 _ from (Rg.mono (show Rg tk tk118 _ from (show Rg tk tk118 _ from Rg.pset (Fr.rg (show Fr tk tk8 _ from (show Fr tk tk8 _ from hf12 rfl)) (by omega) (by omega)) (pget_lp hc131) (t' := LP.mk k121 n121 p121 e121 fs121 q121 f121 ks121) (by rw [LP.toks_eq]; exact Rg.mono (show Rg tk33 tk118 _ from hf122) (by omega) (by omega)))) (by omega) (by omega)))⟩⟩⟩
   replace hM := ite_f hb30 hM
   refine run_skip ?_
   exact ⟨fc25, c25, c26, c27, tk20, (show tk8 ≤ tk20 by omega), hM, Sub.pk [0, 3, 4] rfl⟩
  replace hM := ite_f hb17 hM
  refine yO rfl ?_
  refine yO rfl ?_
  refine yO rfl ?_
  refine yP rfl ?_
  refine yN ?_
  refine run_if rfl rfl (fun h => by cases h) (fun _ => ?_)
  refine run_skip ?_
  exact ⟨f2, l2, i3, i4, tk8, (show tk8 ≤ tk8 by omega), hM, Sub.pk [0, 3, 4] rfl⟩
 clear hM
 rintro σ' ⟨f14, l14, i15, i16, tkj13, hle248, hM, hsub⟩
 rw [hj249] at hM
 clear hj249
 refine run_sub_code hsub ?_
 refine run_seq ?_
 refine run_sr ?_
 refine yL rfl ?_
 obtain ⟨r137, hg138, hM⟩ := bind_t hM
 refine yK rfl (s_l00Src_next_ok (.bor 0) f14 l14 i15 i16 4 hg138 _ _ rfl) (callK_retV_bor (k := 0) rfl (fun v o' tk' h => by obtain ⟨_, _, _, _, _, rfl, rfl, _⟩ := h; rfl) (fun v o'148 tk139 (hle140 : tkj13 ≤ tk139) h141 => ?_))
 obtain ⟨ra147, fc144, c144, c145, c146, rfl, rfl, rfl⟩ := h141
 refine yN ?_
 refine run_block ?_
 refine run_sr ?_
 refine yB rfl ?_
 refine yR rfl ?_
 refine yN ?_
 refine run_ifd rfl rfl (fun hb149 => ?_) (fun hb149 => ?_)
 ·replace hM := ite_t hb149 hM
  refine run_region ?_
  refine yL rfl ?_
  obtain ⟨r150, hg151, hM⟩ := bind_t hM
  refine yK rfl (s_l00Src_next_ok (.bor 0) fc144 c144 c145 c146 5 hg151 _ _ rfl) (callK_retV_bor (k := 0) rfl (fun v o' tk' h => by obtain ⟨_, _, _, _, _, rfl, rfl, _⟩ := h; rfl) (fun v o'161 tk152 (hle153 : tk139 ≤ tk152) h154 => ?_))
  obtain ⟨ra160, fc157, c157, c158, c159, rfl, rfl, rfl⟩ := h154
  refine yF hG rfl ?_
  refine yS hG rfl ?_
  refine yN ?_
  refine run_blk ?_
  refine run_sr ?_
  refine yD hG rfl ?_
  refine yS hG rfl ?_
  refine yN ?_
  refine run_ret_to ?_
  replace hM := some_t hM
  subst hM
  refine fin_x hG rfl rfl rfl (v' := .agg [.int .i64 ra160, .int .i64 n11, .imm p11 3 e11 (fcellss fs11), .imm q11 4 f11 (pcellss ks11)]) (by rfl) ⟨_, ⟨156, 3, true, [[.imm 0 1 fc157 ((c157 : List Int).map fun n => [AV.int .u8 n]), .int .i64 c158, .int .i64 c159]]⟩, rfl, rfl, (show tk ≤ tk152 by omega), ⟨_, fc157, c157, c158, c159, rfl, rfl, ⟨ra160, n11, p11, e11, fs11, q11, f11, ks11, rfl, rfl, (show Rg tk tk152 _ from (Fr.rg (show Fr tk tk8 _ from (show Fr tk tk8 _ from hf12 rfl)) (by omega) (by omega)))⟩⟩⟩
 replace hM := ite_f hb149 hM
 refine run_sr ?_
 refine yB rfl ?_
 refine yR rfl ?_
 refine yN ?_
 refine run_ifd rfl rfl (fun hb162 => ?_) (fun hb162 => ?_)
 ·replace hM := ite_t hb162 hM
  refine run_region ?_
  refine run_op rfl (buildSlice_step (d := 49) hG rfl rfl rfl rfl rfl (by rfl) (by rfl) (by rfl) (by decide)) rfl (ltb rfl) ?_
  refine yL rfl ?_
  obtain ⟨r163, hg164, hM⟩ := bind_t hM
  refine yK rfl (s_l00Src_next_ok (.bor 0) fc144 c144 c145 c146 6 hg164 _ _ rfl) (callK_retV_bor (k := 0) rfl (fun v o' tk' h => by obtain ⟨_, _, _, _, _, rfl, rfl, _⟩ := h; rfl) (fun v o'174 tk165 (hle166 : tk139 ≤ tk165) h167 => ?_))
  obtain ⟨ra173, fc170, c170, c171, c172, rfl, rfl, rfl⟩ := h167
  refine run_sub_ops (Sub.freeze (k := 49) rfl rfl) ?_
  obtain ⟨y175, hy176, hM⟩ := bind_t hM
  obtain ⟨hc178, hi179⟩ := iidx (k := .i64) hy176
  refine run_pu rfl (indexImm_step hG rfl rfl rfl hi179 rfl rfl rfl rfl hc178) rfl (ltb rfl) ?_
  refine yD hG rfl ?_
  refine yF hG rfl ?_
  refine yS hG rfl ?_
  refine yN ?_
  refine run_blk ?_
  refine run_sr ?_
  refine yD hG rfl ?_
  refine yS hG rfl ?_
  refine yN ?_
  refine run_ret_to ?_
  replace hM := some_t hM
  subst hM
  refine fin_x hG rfl rfl rfl (v' := .agg [.int .i64 k11, .int .i64 y175, .imm p11 3 e11 (fcellss fs11), .imm q11 4 f11 (pcellss ks11)]) (by rfl) ⟨_, ⟨156, 3, true, [[.imm 0 1 fc170 ((c170 : List Int).map fun n => [AV.int .u8 n]), .int .i64 c171, .int .i64 c172]]⟩, rfl, rfl, (show tk ≤ (tk165 + 1) by omega), ⟨_, fc170, c170, c171, c172, rfl, rfl, ⟨k11, y175, p11, e11, fs11, q11, f11, ks11, rfl, rfl, (show Rg tk (tk165 + 1) _ from (Fr.rg (show Fr tk tk8 _ from (show Fr tk tk8 _ from hf12 rfl)) (by omega) (by omega)))⟩⟩⟩
 replace hM := ite_f hb162 hM
 refine run_sr ?_
 refine yB rfl ?_
 refine yR rfl ?_
 refine yN ?_
 refine run_ifd rfl rfl (fun hb180 => ?_) (fun hb180 => ?_)
 ·replace hM := ite_t hb180 hM
  refine run_sr ?_
  refine yF hG rfl ?_
  refine yD hG rfl ?_
  refine run_pu rfl (lenImm_step hG rfl rfl rfl rfl (flen _)) rfl (ltb rfl) ?_
  refine yB rfl ?_
  refine yN ?_
  refine run_ifd rfl rfl (fun hb181 => ?_) (fun hb181 => ?_)
  ·replace hM := ite_t hb181 hM
   refine run_drawN (n := 6) mixed rfl ?_
   refine AAnyN.take (i := 0) rfl (by kernel_rfl) (by kernel_rfl) (by kernel_rfl) rfl rfl (ltb rfl) (fieldAddr_step hG rfl rfl rfl rfl rfl) ?_
   refine AAnyN.take (i := 2) rfl (by kernel_rfl) (by kernel_rfl) (by kernel_rfl) rfl rfl (ltb rfl) (move_step (.inl rfl) rfl) ?_
   refine AAnyN.each (rs := [1, 3]) (by kernel_rfl) (fun h => by cases h) (fun i hi => ?_)
   simp only [List.mem_cons, List.not_mem_nil, or_false] at hi
   rcases hi with rfl | rfl
   ·refine AOp.q (W := [.bor 0]) (by intro x hx; simp only [List.mem_cons, List.not_mem_nil, or_false] at hx; rcases hx with rfl <;> rfl) (AOp.rd rfl rfl rfl (ltb rfl) (aload_rd hG rfl rfl rfl (by first | (simp [ldok]; done) | exact List.not_mem_nil | trivial)) ?_)
    obtain ⟨r182, hg183, hM⟩ := bind_t hM
    refine AAnyN.one (i := 3) (by kernel_rfl) (AOp.q (W := [.bor 0]) (by intro x hx; simp only [List.mem_cons, List.not_mem_nil, or_false] at hx; rcases hx with rfl <;> rfl) (AOp.call rfl rfl rfl rfl (ltb rfl) rfl rfl rfl yE (by intro x hx; have hx : x ∈ [ID.bor 0] := hx; simp only [List.mem_cons, List.not_mem_nil, or_false] at hx; subst hx; simp) (s_l00Src_anyType_ok n (.bor 0) fc144 c144 c145 c146 hg183 _ _ rfl) (callK_retV_bor (k := 0) rfl (fun v o' tk' h => by obtain ⟨_, _, _, _, _, rfl, rfl, _⟩ := h; rfl) (fun v o'193 tk184 (hle185 : tk139 ≤ tk184) h186 => ?_))))
    obtain ⟨ra192, fc189, c189, c190, c191, rfl, rfl, ⟨k187, n187, q187, f187, ks187, rfl, rfl, hf188⟩⟩ := h186
    obtain ⟨y195, hy196, hM⟩ := bind_t hM
    obtain ⟨k194, n194, q194, f194, ks194, rfl, hc197, hi198⟩ := fidx (ks := fs11) hy196
    try dsimp only [Pf.kids, Pf.forms, Pf.kind, Pf.n] at hM
    try rw [show (lset (fers fs11) 0 (F.mk k187 n187 (fers ks187)) : List F) = (fers (fs11.set (0 : Int).toNat (LF.mk k187 n187 q187 f187 ks187))) from fers_lset _ _ (LF.mk k187 n187 q187 f187 ks187)] at hM
    obtain ⟨hq199, hq200, hq201, hq202⟩ := Fr.fq (show Fr tk tk8 _ from (show Fr tk tk8 _ from hf12 rfl)) (ne_of_get (fget_lf hc197)) (by omega)
    refine AAnyN.put hG (k1 := 4) (k2 := 5) (by kernel_rfl) (by kernel_rfl) rfl rfl rfl rfl rfl rfl (ltb rfl) rfl rfl rfl rfl (by omega) rfl rfl rfl rfl rfl rfl rfl rfl rfl (fun j v hj => LF.av (LF.mk k187 n187 q187 f187 ks187) (by rw [LF.toks_eq]; exact Rg.avo (show Rg tk139 tk184 _ from hf188) (by omega) (by omega)) j v hj) (by omega) hc197 (fcellss_av _ hq202) (fun _ h => h) hO.symm hzf (show S0.tk ≤ p11 by omega) src_av (fcellss_set _ _ (LF.mk k187 n187 q187 f187 ks187)) (env' := [(0, .optr (.bor 0) 0 0), (3, .optr (.loc 3) 0 0), (4, .optr (.loc 4) 0 0), (34, .optr (.bor 0) 0 0), (35, .int .i64 ra147), (43, .bool (ra147 == 0)), (42, .bool (ra147 == 0)), (48, .bool (ra147 == 1)), (47, .bool (ra147 == 1)), (56, .bool (ra147 == 2)), (55, .bool (ra147 == 2)), (57, .optr (.loc 3) 0 2), (58, .imm p11 3 e11 (fcellss (fs11.set (0 : Int).toNat (LF.mk k187 n187 q187 f187 ks187)))), (59, .int .i64 (((fers fs11)).length : Int)), (60, .bool (decide ((((fers fs11)).length : Int) > 0))), (61, .optr (.loc 3) 0 2), (63, .optr (.bor 0) 0 0), (62, .imm p11 3 e11 (fcellss (fs11.set (0 : Int).toNat (LF.mk k187 n187 q187 f187 ks187))))]) (l' := [(4, ⟨40, 4, true, [[.int .i64 0, .int .i64 0, .imm 0 3 true [], .imm 0 4 true []]]⟩), (3, ⟨40, 4, true, [[.int .i64 k11, .int .i64 n11, .imm p11 3 e11 (fcellss (fs11.set (0 : Int).toNat (LF.mk k187 n187 q187 f187 ks187))), .imm q11 4 f11 (pcellss ks11)]]⟩)]) (.cons _ _ _ _ rfl (.optr _ _ _) (.cons _ _ _ _ rfl (.optr _ _ _) (.cons _ _ _ _ rfl (.optr _ _ _) (.cons _ _ _ _ rfl (.optr _ _ _) (.cons _ _ _ _ rfl (Tn.av (.int _ _)) (.cons _ _ _ _ rfl (Tn.av (.bool _)) (.cons _ _ _ _ rfl (Tn.av (.bool _)) (.cons _ _ _ _ rfl (Tn.av (.bool _)) (.cons _ _ _ _ rfl (Tn.av (.bool _)) (.cons _ _ _ _ rfl (Tn.av (.bool _)) (.cons _ _ _ _ rfl (Tn.av (.bool _)) (.cons _ _ _ _ rfl (.optr _ _ _) (.cons _ _ _ _ rfl (Tn.turn ⟨rfl, rfl⟩) (.cons _ _ _ _ rfl (Tn.av (.int _ _)) (.cons _ _ _ _ rfl (Tn.av (.bool _)) (.cons _ _ _ _ rfl (.optr _ _ _) (.cons _ _ _ _ rfl (.optr _ _ _) (.cons _ _ _ _ rfl (Tn.turn ⟨rfl, rfl⟩) .nil)))))))))))))))))) (.cons _ _ _ _ _ (TnCs.box (.cons _ _ _ _ (Tn.av (.int _ _)) (.cons _ _ _ _ (Tn.av (.int _ _)) (.cons _ _ _ _ (Tn.av (.imm _ _ _ _ (fun h => absurd rfl h) (fun i e j x hi => by simp at hi))) (.cons _ _ _ _ (Tn.av (.imm _ _ _ _ (fun h => absurd rfl h) (fun i e j x hi => by simp at hi))) .nil)))) rfl) (.cons _ _ _ _ _ (TnCs.box (.cons _ _ _ _ (Tn.av (.int _ _)) (.cons _ _ _ _ (Tn.av (.int _ _)) (.cons _ _ _ _ (Tn.turn ⟨rfl, rfl⟩) (.cons _ _ _ _ (Tn.av (ps_av hq201)) .nil)))) rfl) .nil)) ?_
    refine AAnyN.done (by kernel_rfl) ?_
    refine run_blk ?_
    refine run_sub_code (σ' := ⟨[(3, .optr (.loc 3) 0 0), (4, .optr (.loc 4) 0 0)], [(4, ⟨40, 4, true, [[.int .i64 0, .int .i64 0, .imm 0 3 true [], .imm 0 4 true []]]⟩), (3, ⟨40, 4, true, [[.int .i64 k11, .int .i64 n11, .imm p11 3 e11 (fcellss (fs11.set (0 : Int).toNat (LF.mk k187 n187 q187 f187 ks187))), .imm q11 4 f11 (pcellss ks11)]]⟩)], [⟨156, 3, true, [[.imm 0 1 fc189 ((c189 : List Int).map fun n => [AV.int .u8 n]), .int .i64 c190, .int .i64 c191]]⟩], O, tk184⟩) (Sub.env _ ⟨rfl, rfl, trivial⟩) ?_
    refine run_sr ?_
    refine yD hG rfl ?_
    refine yS hG rfl ?_
    refine yN ?_
    refine run_ret_to ?_
    replace hM := some_t hM
    subst hM
    refine fin_x hG rfl rfl rfl (v' := .agg [.int .i64 k11, .int .i64 n11, .imm p11 3 e11 (fcellss (fs11.set (0 : Int).toNat (LF.mk k187 n187 q187 f187 ks187))), .imm q11 4 f11 (pcellss ks11)]) (by rfl) ⟨_, ⟨156, 3, true, [[.imm 0 1 fc189 ((c189 : List Int).map fun n => [AV.int .u8 n]), .int .i64 c190, .int .i64 c191]]⟩, rfl, rfl, (show tk ≤ tk184 by omega), ⟨_, fc189, c189, c190, c191, rfl, rfl, ⟨k11, n11, p11, e11, (fs11.set (0 : Int).toNat (LF.mk k187 n187 q187 f187 ks187)), q11, f11, ks11, rfl, rfl, (show Rg tk tk184 _ from (Rg.mono (show Rg tk tk184 _ from (show Rg tk tk184 _ from Rg.fset (Fr.rg (show Fr tk tk8 _ from (show Fr tk tk8 _ from hf12 rfl)) (by omega) (by omega)) (fget_lf hc197) (t' := LF.mk k187 n187 q187 f187 ks187) (by rw [LF.toks_eq]; exact Rg.mono (show Rg tk139 tk184 _ from hf188) (by omega) (by omega)))) (by omega) (by omega)))⟩⟩⟩
   obtain ⟨r203, hg204, hM⟩ := bind_t hM
   refine AOp.q (W := [.bor 0]) (by intro x hx; simp only [List.mem_cons, List.not_mem_nil, or_false] at hx; rcases hx with rfl <;> rfl) (AOp.call rfl rfl rfl rfl (ltb rfl) rfl rfl rfl yE (by intro x hx; have hx : x ∈ [ID.bor 0] := hx; simp only [List.mem_cons, List.not_mem_nil, or_false] at hx; subst hx; simp) (s_l00Src_anyType_ok n (.bor 0) fc144 c144 c145 c146 hg204 _ _ rfl) (callK_retV_bor (k := 0) rfl (fun v o' tk' h => by obtain ⟨_, _, _, _, _, rfl, rfl, _⟩ := h; rfl) (fun v o'214 tk205 (hle206 : tk139 ≤ tk205) h207 => ?_)))
   obtain ⟨ra213, fc210, c210, c211, c212, rfl, rfl, ⟨k208, n208, q208, f208, ks208, rfl, rfl, hf209⟩⟩ := h207
   refine AAnyN.one (i := 1) (by kernel_rfl) (AOp.q (W := [.bor 0]) (by intro x hx; simp only [List.mem_cons, List.not_mem_nil, or_false] at hx; rcases hx with rfl <;> rfl) (AOp.rd rfl rfl rfl (ltb rfl) (aload_rd hG rfl rfl rfl (by first | (simp [ldok]; done) | exact List.not_mem_nil | trivial)) ?_))
   obtain ⟨y216, hy217, hM⟩ := bind_t hM
   obtain ⟨k215, n215, q215, f215, ks215, rfl, hc218, hi219⟩ := fidx (ks := fs11) hy217
   try dsimp only [Pf.kids, Pf.forms, Pf.kind, Pf.n] at hM
   try rw [show (lset (fers fs11) 0 (F.mk k208 n208 (fers ks208)) : List F) = (fers (fs11.set (0 : Int).toNat (LF.mk k208 n208 q208 f208 ks208))) from fers_lset _ _ (LF.mk k208 n208 q208 f208 ks208)] at hM
   obtain ⟨hq220, hq221, hq222, hq223⟩ := Fr.fq (show Fr tk tk8 _ from (show Fr tk tk8 _ from hf12 rfl)) (ne_of_get (fget_lf hc218)) (by omega)
   refine AAnyN.put hG (k1 := 4) (k2 := 5) (by kernel_rfl) (by kernel_rfl) rfl rfl rfl rfl rfl rfl (ltb rfl) rfl rfl rfl rfl (by omega) rfl rfl rfl rfl rfl rfl rfl rfl rfl (fun j v hj => LF.av (LF.mk k208 n208 q208 f208 ks208) (by rw [LF.toks_eq]; exact Rg.avo (show Rg tk139 tk205 _ from hf209) (by omega) (by omega)) j v hj) (by omega) hc218 (fcellss_av _ hq223) (fun _ h => h) hO.symm hzf (show S0.tk ≤ p11 by omega) src_av (fcellss_set _ _ (LF.mk k208 n208 q208 f208 ks208)) (env' := [(0, .optr (.bor 0) 0 0), (3, .optr (.loc 3) 0 0), (4, .optr (.loc 4) 0 0), (34, .optr (.bor 0) 0 0), (35, .int .i64 ra147), (43, .bool (ra147 == 0)), (42, .bool (ra147 == 0)), (48, .bool (ra147 == 1)), (47, .bool (ra147 == 1)), (56, .bool (ra147 == 2)), (55, .bool (ra147 == 2)), (57, .optr (.loc 3) 0 2), (58, .imm p11 3 e11 (fcellss (fs11.set (0 : Int).toNat (LF.mk k208 n208 q208 f208 ks208)))), (59, .int .i64 (((fers fs11)).length : Int)), (60, .bool (decide ((((fers fs11)).length : Int) > 0))), (61, .optr (.loc 3) 0 2), (63, .optr (.bor 0) 0 0), (62, .imm p11 3 e11 (fcellss (fs11.set (0 : Int).toNat (LF.mk k208 n208 q208 f208 ks208))))]) (l' := [(4, ⟨40, 4, true, [[.int .i64 0, .int .i64 0, .imm 0 3 true [], .imm 0 4 true []]]⟩), (3, ⟨40, 4, true, [[.int .i64 k11, .int .i64 n11, .imm p11 3 e11 (fcellss (fs11.set (0 : Int).toNat (LF.mk k208 n208 q208 f208 ks208))), .imm q11 4 f11 (pcellss ks11)]]⟩)]) (.cons _ _ _ _ rfl (.optr _ _ _) (.cons _ _ _ _ rfl (.optr _ _ _) (.cons _ _ _ _ rfl (.optr _ _ _) (.cons _ _ _ _ rfl (.optr _ _ _) (.cons _ _ _ _ rfl (Tn.av (.int _ _)) (.cons _ _ _ _ rfl (Tn.av (.bool _)) (.cons _ _ _ _ rfl (Tn.av (.bool _)) (.cons _ _ _ _ rfl (Tn.av (.bool _)) (.cons _ _ _ _ rfl (Tn.av (.bool _)) (.cons _ _ _ _ rfl (Tn.av (.bool _)) (.cons _ _ _ _ rfl (Tn.av (.bool _)) (.cons _ _ _ _ rfl (.optr _ _ _) (.cons _ _ _ _ rfl (Tn.turn ⟨rfl, rfl⟩) (.cons _ _ _ _ rfl (Tn.av (.int _ _)) (.cons _ _ _ _ rfl (Tn.av (.bool _)) (.cons _ _ _ _ rfl (.optr _ _ _) (.cons _ _ _ _ rfl (.optr _ _ _) (.cons _ _ _ _ rfl (Tn.turn ⟨rfl, rfl⟩) .nil)))))))))))))))))) (.cons _ _ _ _ _ (TnCs.box (.cons _ _ _ _ (Tn.av (.int _ _)) (.cons _ _ _ _ (Tn.av (.int _ _)) (.cons _ _ _ _ (Tn.av (.imm _ _ _ _ (fun h => absurd rfl h) (fun i e j x hi => by simp at hi))) (.cons _ _ _ _ (Tn.av (.imm _ _ _ _ (fun h => absurd rfl h) (fun i e j x hi => by simp at hi))) .nil)))) rfl) (.cons _ _ _ _ _ (TnCs.box (.cons _ _ _ _ (Tn.av (.int _ _)) (.cons _ _ _ _ (Tn.av (.int _ _)) (.cons _ _ _ _ (Tn.turn ⟨rfl, rfl⟩) (.cons _ _ _ _ (Tn.av (ps_av hq222)) .nil)))) rfl) .nil)) ?_
   refine AAnyN.done (by kernel_rfl) ?_
   refine run_blk ?_
   refine run_sub_code (σ' := ⟨[(3, .optr (.loc 3) 0 0), (4, .optr (.loc 4) 0 0)], [(4, ⟨40, 4, true, [[.int .i64 0, .int .i64 0, .imm 0 3 true [], .imm 0 4 true []]]⟩), (3, ⟨40, 4, true, [[.int .i64 k11, .int .i64 n11, .imm p11 3 e11 (fcellss (fs11.set (0 : Int).toNat (LF.mk k208 n208 q208 f208 ks208))), .imm q11 4 f11 (pcellss ks11)]]⟩)], [⟨156, 3, true, [[.imm 0 1 fc210 ((c210 : List Int).map fun n => [AV.int .u8 n]), .int .i64 c211, .int .i64 c212]]⟩], O, tk205⟩) (Sub.env _ ⟨rfl, rfl, trivial⟩) ?_
   refine run_sr ?_
   refine yD hG rfl ?_
   refine yS hG rfl ?_
   refine yN ?_
   refine run_ret_to ?_
   replace hM := some_t hM
   subst hM
   refine fin_x hG rfl rfl rfl (v' := .agg [.int .i64 k11, .int .i64 n11, .imm p11 3 e11 (fcellss (fs11.set (0 : Int).toNat (LF.mk k208 n208 q208 f208 ks208))), .imm q11 4 f11 (pcellss ks11)]) (by rfl) ⟨_, ⟨156, 3, true, [[.imm 0 1 fc210 ((c210 : List Int).map fun n => [AV.int .u8 n]), .int .i64 c211, .int .i64 c212]]⟩, rfl, rfl, (show tk ≤ tk205 by omega), ⟨_, fc210, c210, c211, c212, rfl, rfl, ⟨k11, n11, p11, e11, (fs11.set (0 : Int).toNat (LF.mk k208 n208 q208 f208 ks208)), q11, f11, ks11, rfl, rfl, (show Rg tk tk205 _ from (Rg.mono (show Rg tk tk205 _ from (show Rg tk tk205 _ from Rg.fset (Fr.rg (show Fr tk tk8 _ from (show Fr tk tk8 _ from hf12 rfl)) (by omega) (by omega)) (fget_lf hc218) (t' := LF.mk k208 n208 q208 f208 ks208) (by rw [LF.toks_eq]; exact Rg.mono (show Rg tk139 tk205 _ from hf209) (by omega) (by omega)))) (by omega) (by omega)))⟩⟩⟩
  replace hM := ite_f hb181 hM
  refine run_skip ?_
  refine run_blk ?_
  refine run_sr ?_
  refine yD hG rfl ?_
  refine yS hG rfl ?_
  refine yN ?_
  refine run_ret_to ?_
  replace hM := some_t hM
  subst hM
  refine fin_x hG rfl rfl rfl (v' := .agg [.int .i64 k11, .int .i64 n11, .imm p11 3 e11 (fcellss fs11), .imm q11 4 f11 (pcellss ks11)]) (by rfl) ⟨_, ⟨156, 3, true, [[.imm 0 1 fc144 ((c144 : List Int).map fun n => [AV.int .u8 n]), .int .i64 c145, .int .i64 c146]]⟩, rfl, rfl, (show tk ≤ tk139 by omega), ⟨_, fc144, c144, c145, c146, rfl, rfl, ⟨k11, n11, p11, e11, fs11, q11, f11, ks11, rfl, rfl, (show Rg tk tk139 _ from (Fr.rg (show Fr tk tk8 _ from (show Fr tk tk8 _ from hf12 rfl)) (by omega) (by omega)))⟩⟩⟩
 replace hM := ite_f hb180 hM
 refine run_draw [.loc 3, .bor 0] (n := 7) mixed rfl (by intro x hx; simp only [List.mem_cons, List.not_mem_nil, or_false] at hx; rcases hx with rfl | rfl <;> rfl) ?_
 refine yTV 1 (by kernel_rfl) rfl ?_
 refine AAny.each (rs := [0, 2]) (by kernel_rfl) (fun h => by cases h) (fun i hi => ?_)
 simp only [List.mem_cons, List.not_mem_nil, or_false] at hi
 rcases hi with rfl | rfl
 ·refine AOp.rd rfl rfl rfl (ltb rfl) (aload_rd hG rfl rfl rfl (by first | (simp [ldok]; done) | exact List.not_mem_nil | trivial)) ?_
  obtain ⟨r224, hg225, hM⟩ := bind_t hM
  refine AAny.one (i := 2) (by kernel_rfl) (AOp.call rfl rfl rfl rfl (ltb rfl) rfl rfl rfl yE (by intro x hx; have hx : x ∈ [ID.bor 0] := hx; simp only [List.mem_cons, List.not_mem_nil, or_false] at hx; subst hx; simp) (s_l00Src_next_ok (.bor 0) fc144 c144 c145 c146 3 hg225 _ _ rfl) (callK_retV_bor (k := 0) rfl (fun v o' tk' h => by obtain ⟨_, _, _, _, _, rfl, rfl, _⟩ := h; rfl) (fun v o'235 tk226 (hle227 : tk139 ≤ tk226) h228 => ?_)))
  obtain ⟨ra234, fc231, c231, c232, c233, rfl, rfl, rfl⟩ := h228
  refine yT 3 (by kernel_rfl) rfl rfl rfl (ltb rfl) ((build_step hG rfl (by rfl) rfl (fun h => by cases h) (by rfl)).rd _) ?_
  refine AAny.one (i := 4) (by kernel_rfl) (AOp.step rfl rfl rfl (ltb rfl) (buildSlice_step (d := 40) hG rfl rfl rfl rfl rfl (by rfl) (by rfl) (by rfl) (by decide)) yE ?_)
  refine yT 5 (by kernel_rfl) rfl rfl rfl (ltb rfl) ((build_step hG rfl (by rfl) rfl (fun h => by cases h) (by rfl)).rd _) ?_
  refine yW hG 6 (by kernel_rfl) rfl (by kernel_rfl) rfl ?_
  refine AAny.done (by kernel_rfl) ?_
  refine run_blk ?_
  refine run_sub_code (σ' := ⟨[(3, .optr (.loc 3) 0 0), (4, .optr (.loc 4) 0 0)], [(40, ⟨40, 4, false, pcellss [LP.mk k11 n11 p11 e11 fs11 q11 f11 ks11, LP.mk 1 ra234 0 true [] 0 true []]⟩), (4, ⟨40, 4, true, [[.int .i64 0, .int .i64 0, .imm 0 3 true [], .imm 0 4 true []]]⟩), (3, ⟨40, 4, true, [[.int .i64 2, .int .i64 0, .imm 0 3 true [], .osl (.loc 40)]]⟩)], [⟨156, 3, true, [[.imm 0 1 fc231 ((c231 : List Int).map fun n => [AV.int .u8 n]), .int .i64 c232, .int .i64 c233]]⟩], O, tk226⟩) (Sub.env _ ⟨rfl, rfl, trivial⟩) ?_
  refine run_sr ?_
  refine yD hG rfl ?_
  refine yS hG rfl ?_
  refine yN ?_
  refine run_ret_to ?_
  refine fin_sub (Sub.freeze (k := 40) rfl rfl) ?_
  replace hM := some_t hM
  subst hM
  refine fin_x hG rfl rfl rfl (v' := .agg [.int .i64 2, .int .i64 0, .imm 0 3 true (fcellss []), .imm tk226 4 false (pcellss [LP.mk k11 n11 p11 e11 fs11 q11 f11 ks11, LP.mk 1 ra234 0 true [] 0 true []])]) (by rfl) ⟨_, ⟨156, 3, true, [[.imm 0 1 fc231 ((c231 : List Int).map fun n => [AV.int .u8 n]), .int .i64 c232, .int .i64 c233]]⟩, rfl, rfl, (show tk ≤ (tk226 + 1) by omega), ⟨_, fc231, c231, c232, c233, rfl, rfl, ⟨2, 0, 0, true, [], tk226, false, [LP.mk k11 n11 p11 e11 fs11 q11 f11 ks11, LP.mk 1 ra234 0 true [] 0 true []], rfl, rfl, (show Rg tk (tk226 + 1) _ from (Rg.app (Rg.nil tk (tk226 + 1)) (Rg.mono (show Rg tk (tk226 + 1) _ from (Rg.ptop (show Rg tk (tk226 + 1) (ptoks [LP.mk k11 n11 p11 e11 fs11 q11 f11 ks11, LP.mk 1 ra234 0 true [] 0 true []]) from (Rg.pcons (show Rg tk (tk226 + 1) _ from (Fr.rg (show Fr tk tk8 _ from (show Fr tk tk8 _ from hf12 rfl)) (by omega) (by omega))) (Rg.pcons (show Rg tk (tk226 + 1) _ from (Rg.app (Rg.nil tk (tk226 + 1)) (Rg.nil tk (tk226 + 1)))) (Rg.nil tk (tk226 + 1))))) (by omega) (by omega))) (by omega) (by omega))))⟩⟩⟩
 obtain ⟨r236, hg237, hM⟩ := bind_t hM
 refine AOp.call rfl rfl rfl rfl (ltb rfl) rfl rfl rfl yE (by intro x hx; have hx : x ∈ [ID.bor 0] := hx; simp only [List.mem_cons, List.not_mem_nil, or_false] at hx; subst hx; simp) (s_l00Src_next_ok (.bor 0) fc144 c144 c145 c146 3 hg237 _ _ rfl) (callK_retV_bor (k := 0) rfl (fun v o' tk' h => by obtain ⟨_, _, _, _, _, rfl, rfl, _⟩ := h; rfl) (fun v o'247 tk238 (hle239 : tk139 ≤ tk238) h240 => ?_))
 obtain ⟨ra246, fc243, c243, c244, c245, rfl, rfl, rfl⟩ := h240
 refine yT 3 (by kernel_rfl) rfl rfl rfl (ltb rfl) ((build_step hG rfl (by rfl) rfl (fun h => by cases h) (by rfl)).rd _) ?_
 refine AAny.one (i := 0) (by kernel_rfl) (AOp.rd rfl rfl rfl (ltb rfl) (aload_rd hG rfl rfl rfl (by first | (simp [ldok]; done) | exact List.not_mem_nil | trivial)) ?_)
 refine AAny.one (i := 4) (by kernel_rfl) (AOp.step rfl rfl rfl (ltb rfl) (buildSlice_step (d := 40) hG rfl rfl rfl rfl rfl (by rfl) (by rfl) (by rfl) (by decide)) yE ?_)
 refine yT 5 (by kernel_rfl) rfl rfl rfl (ltb rfl) ((build_step hG rfl (by rfl) rfl (fun h => by cases h) (by rfl)).rd _) ?_
 refine yW hG 6 (by kernel_rfl) rfl (by kernel_rfl) rfl ?_
 refine AAny.done (by kernel_rfl) ?_
 refine run_blk ?_
 refine run_sub_code (σ' := ⟨[(3, .optr (.loc 3) 0 0), (4, .optr (.loc 4) 0 0)], [(40, ⟨40, 4, false, pcellss [LP.mk k11 n11 p11 e11 fs11 q11 f11 ks11, LP.mk 1 ra246 0 true [] 0 true []]⟩), (4, ⟨40, 4, true, [[.int .i64 0, .int .i64 0, .imm 0 3 true [], .imm 0 4 true []]]⟩), (3, ⟨40, 4, true, [[.int .i64 2, .int .i64 0, .imm 0 3 true [], .osl (.loc 40)]]⟩)], [⟨156, 3, true, [[.imm 0 1 fc243 ((c243 : List Int).map fun n => [AV.int .u8 n]), .int .i64 c244, .int .i64 c245]]⟩], O, tk238⟩) (Sub.env _ ⟨rfl, rfl, trivial⟩) ?_
 refine run_sr ?_
 refine yD hG rfl ?_
 refine yS hG rfl ?_
 refine yN ?_
 refine run_ret_to ?_
 refine fin_sub (Sub.freeze (k := 40) rfl rfl) ?_
 replace hM := some_t hM
 subst hM
 refine fin_x hG rfl rfl rfl (v' := .agg [.int .i64 2, .int .i64 0, .imm 0 3 true (fcellss []), .imm tk238 4 false (pcellss [LP.mk k11 n11 p11 e11 fs11 q11 f11 ks11, LP.mk 1 ra246 0 true [] 0 true []])]) (by rfl) ⟨_, ⟨156, 3, true, [[.imm 0 1 fc243 ((c243 : List Int).map fun n => [AV.int .u8 n]), .int .i64 c244, .int .i64 c245]]⟩, rfl, rfl, (show tk ≤ (tk238 + 1) by omega), ⟨_, fc243, c243, c244, c245, rfl, rfl, ⟨2, 0, 0, true, [], tk238, false, [LP.mk k11 n11 p11 e11 fs11 q11 f11 ks11, LP.mk 1 ra246 0 true [] 0 true []], rfl, rfl, (show Rg tk (tk238 + 1) _ from (Rg.app (Rg.nil tk (tk238 + 1)) (Rg.mono (show Rg tk (tk238 + 1) _ from (Rg.ptop (show Rg tk (tk238 + 1) (ptoks [LP.mk k11 n11 p11 e11 fs11 q11 f11 ks11, LP.mk 1 ra246 0 true [] 0 true []]) from (Rg.pcons (show Rg tk (tk238 + 1) _ from (Fr.rg (show Fr tk tk8 _ from (show Fr tk tk8 _ from hf12 rfl)) (by omega) (by omega))) (Rg.pcons (show Rg tk (tk238 + 1) _ from (Rg.app (Rg.nil tk (tk238 + 1)) (Rg.nil tk (tk238 + 1)))) (Rg.nil tk (tk238 + 1))))) (by omega) (by omega))) (by omega) (by omega))))⟩⟩⟩

theorem s_l00Src_spoiltExpr_all : ∀ (n : Nat), (s_l00Src_spoiltExpr_P n)
 | 0 => by intro X0 f2 l2 i3 i4 k5 n5 p5 e5 fs5 q5 f5 ks5 r hM; rw [s_l00Src_spoiltExpr] at hM; cases hM
 | n + 1 => have ih := s_l00Src_spoiltExpr_all n; s_l00Src_spoiltExpr_st n (ih)

theorem s_l00Src_spoiltExpr_ok (n : Nat) : s_l00Src_spoiltExpr_P n := s_l00Src_spoiltExpr_all n

end Go.Am.Ytpkeophkdemcpaa
