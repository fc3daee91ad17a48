/- Printed by a program of ours: Lean functions that do what the Go functions do, and the contracts. -/
import Derived.Test.YtfjmdfipnmmboaaTypes
import Derived.Test.YtfjmdfipnmmboaaMsExpr
import Derived.Test.YtfjmdfipnmmboaaMxTypeOf
import Derived.Test.YtfjmdfipnmmboaaMlExpr
import Derived.Test.YtfjmdfipnmmboaaMlType
-- packed
namespace Go.Am.Ytfjmdfipnmmboaa
open Go Go.Am

def w_heldTypeS_L1 (rec_w_heldTypeS : List F → Int → Option Int) (l1 : List F) : Nat → Int → Int → Option Int
 | 0, _, _ => none
 | m + 1, i3, i4 =>
  if i4 < ((l1).length : Int) then
   (idx l1 i4).bind fun y6 =>
   if (y6.kind != i3) = true then
    some (-1)
   else
    (idx l1 i4).bind fun y12 =>
    if (y12.n != (IntKind.i64.wrap (i3 + 1))) = true then
     some (-1)
    else
     (idx l1 i4).bind fun y18 =>
     (rec_w_heldTypeS y18.kids (IntKind.i64.wrap ((IntKind.i64.wrap (i3 + 1)) + 1))).bind fun r23 =>
     if r23 < 0 then
      some (-1)
     else
      w_heldTypeS_L1 rec_w_heldTypeS l1 m r23 (IntKind.i64.wrap (i4 + 1))
  else
   some i3

def w_heldTypeS : Nat → List F → Int → Option Int
 | 0, _, _ => none
 | n + 1, l1, i2 =>
  w_heldTypeS_L1 (w_heldTypeS n) l1 n i2 0

set_option maxRecDepth 100000 in
theorem w_heldTypeS_st (n : Nat) (ih_w_heldTypeS : ∀ (q1 : Nat) (f1 : Bool) (ks1 : List LF) (i2 : Int) {r : Int}, w_heldTypeS n (fers ks1) i2 = some r → ∀ (O : Heap) (tk : Nat), ACalls Go.Proofs.Try.prog 71 [.imm q1 3 f1 (fcellss ks1), .int .i64 i2] O tk (RetX O tk (fun v tk' => v = .int .i64 r))) : ∀ (q1 : Nat) (f1 : Bool) (ks1 : List LF) (i2 : Int) {r : Int}, w_heldTypeS (n + 1) (fers ks1) i2 = some r → ∀ (O : Heap) (tk : Nat), ACalls Go.Proofs.Try.prog 71 [.imm q1 3 f1 (fcellss ks1), .int .i64 i2] O tk (RetX O tk (fun v tk' => v = .int .i64 r)) := by
 intro q1 f1 ks1 i2 r hM O tk
 rw [w_heldTypeS] at hM
 refine acalls_of_run Go.Proofs.Try.func71 rfl rfl [] [] (Bor.nil _) [(0, .imm q1 3 f1 (fcellss ks1)), (1, .int .i64 i2)] (.cons (entS rfl) (.cons (entS rfl) (.nil _))) (leb rfl) (fun _ h => by cases h) (fun S0 hO htk hfz => ?_)
 refine run_sr ?_
 refine mvR rfl rfl rfl rfl (ltb rfl) ?_
 refine run_ops_nil ?_
 refine run_seq ?_
 refine run_sr ?_
 refine mvR rfl rfl rfl rfl (ltb rfl) ?_
 refine run_ops_nil ?_
 refine run_block ?_
 refine run_rounds (fun m σ => ∃ (i3 : Int) (i4 : Int) (tkw_heldTypeS_L1 : Nat), tk ≤ tkw_heldTypeS_L1 ∧ w_heldTypeS_L1 (w_heldTypeS n) (fers ks1) m i3 i4 = some r ∧ σ = ⟨[(0, .imm q1 3 f1 (fcellss ks1)), (1, .int .i64 i3), (4, .int .i64 0), (5, .int .i64 i4)], [], [], O, tkw_heldTypeS_L1⟩) n (Sub.env [(0, .imm q1 3 f1 (fcellss ks1)), (1, .int .i64 i2), (4, .int .i64 0), (5, .int .i64 0)] ⟨rfl, rfl, rfl, rfl, trivial⟩) ⟨i2, 0, tk, Nat.le_refl _, hM, rfl⟩ (fun m σ hI => ?_)
 clear hM
 obtain ⟨i3, i4, tkw_heldTypeS_L1, hle31, hM, rfl⟩ := hI
 obtain _ | m := m
 ·exact absurd hM (by rw [w_heldTypeS_L1]; exact fun h => by cases h)
 rw [w_heldTypeS_L1] at hM
 refine run_seq ?_
 refine run_sr ?_
 refine mvL rfl rfl rfl rfl (ltb rfl) ?_
 refine mvL rfl rfl rfl rfl (ltb rfl) ?_
 refine run_pu rfl (lenImm_step hG rfl rfl rfl rfl (flen _)) rfl (ltb rfl) ?_
 refine run_bin rfl rfl rfl rfl rfl rfl rfl (ltb rfl) ?_
 refine run_ops_nil ?_
 refine run_ifd rfl rfl (fun hb5 => ?_) (fun hb5 => ?_)
 ·replace hM := ite_t hb5 hM
  refine run_skip ?_
  refine run_seq ?_
  refine run_block ?_
  refine run_seq ?_
  refine run_sr ?_
  refine mvL rfl rfl rfl rfl (ltb rfl) ?_
  refine mvL rfl rfl rfl rfl (ltb rfl) ?_
  obtain ⟨y6, hy7, hM⟩ := bind_t hM
  obtain ⟨k8, n8, q8, f8, ks8, rfl, hc9, hi10⟩ := fidx (ks := ks1) hy7
  refine run_pu rfl (indexImm_step hG rfl rfl rfl hi10 rfl rfl rfl rfl hc9) rfl (ltb rfl) ?_
  refine run_pu rfl (fieldAddr_step hG rfl rfl rfl rfl rfl) rfl (ltb rfl) ?_
  refine run_ld hG rfl rfl rfl rfl rfl (ltb rfl) ?_
  refine mvL rfl rfl rfl rfl (ltb rfl) ?_
  refine run_bin rfl rfl rfl rfl rfl rfl rfl (ltb rfl) ?_
  refine run_ops_nil ?_
  refine run_ifb rfl rfl (fun hb11 => ?_) (fun hb11 => ?_)
  ·replace hM := ite_t hb11 hM
   refine run_sr ?_
   refine mvR rfl rfl rfl rfl (ltb rfl) ?_
   refine run_ops_nil ?_
   refine run_ret_to ?_
   obtain rfl := some_t hM
   refine fin_x hG rfl rfl rfl (v' := .int .i64 (-1)) (by rfl) ⟨rfl, (show tk ≤ tkw_heldTypeS_L1 by omega), _, rfl, rfl⟩
  ·replace hM := ite_f hb11 hM
   refine run_skip ?_
   refine run_sr ?_
   refine mvL rfl rfl rfl rfl (ltb rfl) ?_
   refine run_bin rfl rfl rfl rfl rfl rfl rfl (ltb rfl) ?_
   refine mvR rfl rfl rfl rfl (ltb rfl) ?_
   refine run_ops_nil ?_
   refine run_sub_code (σ' := ⟨[(0, .imm q1 3 f1 (fcellss ks1)), (1, .int .i64 (IntKind.i64.wrap (i3 + 1))), (4, .int .i64 0), (5, .int .i64 i4)], [], [], O, tkw_heldTypeS_L1⟩) (Sub.env [(0, .imm q1 3 f1 (fcellss ks1)), (1, .int .i64 (IntKind.i64.wrap (i3 + 1))), (4, .int .i64 0), (5, .int .i64 i4)] ⟨rfl, rfl, rfl, rfl, trivial⟩) ?_
   refine run_seq ?_
   refine run_sr ?_
   refine mvL rfl rfl rfl rfl (ltb rfl) ?_
   refine mvL rfl rfl rfl rfl (ltb rfl) ?_
   obtain ⟨y12, hy13, hM⟩ := bind_t hM
   obtain ⟨k14, n14, q14, f14, ks14, rfl, hc15, hi16⟩ := fidx (ks := ks1) hy13
   refine run_pu rfl (indexImm_step hG rfl rfl rfl hi16 rfl rfl rfl rfl hc15) rfl (ltb rfl) ?_
   refine run_pu rfl (fieldAddr_step hG rfl rfl rfl rfl rfl) rfl (ltb rfl) ?_
   refine run_ld hG rfl rfl rfl rfl rfl (ltb rfl) ?_
   refine mvL rfl rfl rfl rfl (ltb rfl) ?_
   refine run_bin rfl rfl rfl rfl rfl rfl rfl (ltb rfl) ?_
   refine run_ops_nil ?_
   refine run_ifb rfl rfl (fun hb17 => ?_) (fun hb17 => ?_)
   ·replace hM := ite_t hb17 hM
    refine run_sr ?_
    refine mvR rfl rfl rfl rfl (ltb rfl) ?_
    refine run_ops_nil ?_
    refine run_ret_to ?_
    obtain rfl := some_t hM
    refine fin_x hG rfl rfl rfl (v' := .int .i64 (-1)) (by rfl) ⟨rfl, (show tk ≤ tkw_heldTypeS_L1 by omega), _, rfl, rfl⟩
   ·replace hM := ite_f hb17 hM
    refine run_skip ?_
    refine run_sr ?_
    refine mvL rfl rfl rfl rfl (ltb rfl) ?_
    refine run_bin rfl rfl rfl rfl rfl rfl rfl (ltb rfl) ?_
    refine mvR rfl rfl rfl rfl (ltb rfl) ?_
    refine run_ops_nil ?_
    refine run_sr ?_
    refine mvL rfl rfl rfl rfl (ltb rfl) ?_
    refine mvL rfl rfl rfl rfl (ltb rfl) ?_
    obtain ⟨y18, hy19, hM⟩ := bind_t hM
    obtain ⟨k20, n20, q20, f20, ks20, rfl, hc21, hi22⟩ := fidx (ks := ks1) hy19
    refine run_pu rfl (indexImm_step hG rfl rfl rfl hi22 rfl rfl rfl rfl hc21) rfl (ltb rfl) ?_
    refine run_pu rfl (fieldAddr_step hG rfl rfl rfl rfl rfl) rfl (ltb rfl) ?_
    refine run_ld hG rfl rfl rfl rfl rfl (ltb rfl) ?_
    refine mvL rfl rfl rfl rfl (ltb rfl) ?_
    obtain ⟨r23, hg24, hM⟩ := bind_t hM
    refine run_call rfl rfl rfl (ltb rfl) rfl rfl rfl (fun _ h => absurd h List.not_mem_nil) (ih_w_heldTypeS q20 f20 ks20 (IntKind.i64.wrap ((IntKind.i64.wrap (i3 + 1)) + 1)) hg24 _ _) (callK_retX (fun v tk25 (hle26 : tkw_heldTypeS_L1 ≤ tk25) h27 => ?_))
    subst h27
    refine mvR rfl rfl rfl rfl (ltb rfl) ?_
    refine run_ops_nil ?_
    refine run_sub_code (σ' := ⟨[(0, .imm q1 3 f1 (fcellss ks1)), (1, .int .i64 r23), (4, .int .i64 0), (5, .int .i64 i4)], [], [], O, tk25⟩) (Sub.env [(0, .imm q1 3 f1 (fcellss ks1)), (1, .int .i64 r23), (4, .int .i64 0), (5, .int .i64 i4)] ⟨rfl, rfl, rfl, rfl, trivial⟩) ?_
    refine run_sr ?_
    refine mvL rfl rfl rfl rfl (ltb rfl) ?_
    refine run_bin rfl rfl rfl rfl rfl rfl rfl (ltb rfl) ?_
    refine run_ops_nil ?_
    refine run_ifd rfl rfl (fun hb30 => ?_) (fun hb30 => ?_)
    ·replace hM := ite_t hb30 hM
     refine run_sr ?_
     refine mvR rfl rfl rfl rfl (ltb rfl) ?_
     refine run_ops_nil ?_
     refine run_ret_to ?_
     obtain rfl := some_t hM
     refine fin_x hG rfl rfl rfl (v' := .int .i64 (-1)) (by rfl) ⟨rfl, (show tk ≤ tk25 by omega), _, rfl, rfl⟩
    ·replace hM := ite_f hb30 hM
     refine run_skip ?_
     refine run_blk ?_
     refine run_region ?_
     refine mvL rfl rfl rfl rfl (ltb rfl) ?_
     refine run_bin rfl rfl rfl rfl rfl rfl rfl (ltb rfl) ?_
     refine mvR rfl rfl rfl rfl (ltb rfl) ?_
     refine run_ops_nil ?_
     exact run_loop_end ⟨m, _, Nat.lt_succ_self _, ⟨r23, (IntKind.i64.wrap (i4 + 1)), tk25, (show tk ≤ tk25 by omega), hM, rfl⟩, Sub.env [(0, .imm q1 3 f1 (fcellss ks1)), (1, .int .i64 r23), (4, .int .i64 0), (5, .int .i64 (IntKind.i64.wrap (i4 + 1)))] ⟨rfl, rfl, rfl, rfl, trivial⟩⟩
 ·replace hM := ite_f hb5 hM
  refine run_exit_to rfl ?_
  refine run_sr ?_
  refine mvL rfl rfl rfl rfl (ltb rfl) ?_
  refine mvR rfl rfl rfl rfl (ltb rfl) ?_
  refine run_ops_nil ?_
  refine run_ret_to ?_
  obtain rfl := some_t hM
  refine fin_x hG rfl rfl rfl (v' := .int .i64 i3) (by rfl) ⟨rfl, (show tk ≤ tkw_heldTypeS_L1 by omega), _, rfl, rfl⟩

theorem w_heldTypeS_all : ∀ (n : Nat), (∀ (q1 : Nat) (f1 : Bool) (ks1 : List LF) (i2 : Int) {r : Int}, w_heldTypeS n (fers ks1) i2 = some r → ∀ (O : Heap) (tk : Nat), ACalls Go.Proofs.Try.prog 71 [.imm q1 3 f1 (fcellss ks1), .int .i64 i2] O tk (RetX O tk (fun v tk' => v = .int .i64 r)))
 | 0 => by intro q1 f1 ks1 i2 r hM; rw [w_heldTypeS] at hM; cases hM
 | n + 1 => have ih := w_heldTypeS_all n; w_heldTypeS_st n (ih)

theorem w_heldTypeS_ok (n : Nat) : ∀ (q1 : Nat) (f1 : Bool) (ks1 : List LF) (i2 : Int) {r : Int}, w_heldTypeS n (fers ks1) i2 = some r → ∀ (O : Heap) (tk : Nat), ACalls Go.Proofs.Try.prog 71 [.imm q1 3 f1 (fcellss ks1), .int .i64 i2] O tk (RetX O tk (fun v tk' => v = .int .i64 r)) := w_heldTypeS_all n

def w_heldType (n : Nat) (x1 : F) (i2 : Int) : Option Int :=
 (w_heldTypeS n x1.kids i2).bind fun r3 =>
 if r3 < 0 then
  some (-1)
 else
  some r3

set_option maxRecDepth 100000 in
theorem w_heldType_ok (n : Nat) : ∀ (k1 : Int) (n1 : Int) (q1 : Nat) (f1 : Bool) (ks1 : List LF) (i2 : Int) {r : Int}, w_heldType n (F.mk k1 n1 (fers ks1)) i2 = some r → ∀ (O : Heap) (tk : Nat), ACalls Go.Proofs.Try.prog 28 [.agg [.int .i64 k1, .int .i64 n1, .imm q1 3 f1 (fcellss ks1)], .int .i64 i2] O tk (RetX O tk (fun v tk' => v = .int .i64 r)) := by
 intro k1 n1 q1 f1 ks1 i2 r hM O tk
 unfold w_heldType at hM
 refine acalls_of_run Go.Proofs.Try.func28 rfl rfl [] [] (Bor.nil _) [(0, .agg [.int .i64 k1, .int .i64 n1, .imm q1 3 f1 (fcellss ks1)]), (1, .int .i64 i2)] (.cons (.agg _) (.cons (entS rfl) (.nil _))) (leb rfl) (fun _ h => by cases h) (fun S0 hO htk hfz => ?_)
 refine run_sr ?_
 refine run_op rfl (box_step (d := 2) rfl rfl rfl rfl rfl) rfl (ltb rfl) ?_
 refine mvR rfl rfl rfl rfl (ltb rfl) ?_
 refine run_ops_nil ?_
 refine run_sr ?_
 refine run_pu rfl (fieldAddr_step hG rfl rfl rfl rfl rfl) rfl (ltb rfl) ?_
 refine run_ld hG rfl rfl rfl rfl rfl (ltb rfl) ?_
 refine mvL rfl rfl rfl rfl (ltb rfl) ?_
 obtain ⟨r3, hg4, hM⟩ := bind_t hM
 refine run_call rfl rfl rfl (ltb rfl) rfl rfl rfl (fun _ h => absurd h List.not_mem_nil) (w_heldTypeS_ok n q1 f1 ks1 i2 hg4 _ _) (callK_retX (fun v tk5 (hle6 : tk ≤ tk5) h7 => ?_))
 subst h7
 refine mvR rfl rfl rfl rfl (ltb rfl) ?_
 refine run_ops_nil ?_
 refine run_seq ?_
 refine run_sr ?_
 refine mvL rfl rfl rfl rfl (ltb rfl) ?_
 refine run_bin rfl rfl rfl rfl rfl rfl rfl (ltb rfl) ?_
 refine run_ops_nil ?_
 refine run_ifd rfl rfl (fun hb10 => ?_) (fun hb10 => ?_)
 ·replace hM := ite_t hb10 hM
  refine run_sr ?_
  refine mvR rfl rfl rfl rfl (ltb rfl) ?_
  refine run_ops_nil ?_
  refine run_ret_to ?_
  obtain rfl := some_t hM
  refine fin_x hG rfl rfl rfl (v' := .int .i64 (-1)) (by rfl) ⟨rfl, (show tk ≤ tk5 by omega), _, rfl, rfl⟩
 ·replace hM := ite_f hb10 hM
  refine run_skip ?_
  refine run_sr ?_
  refine mvL rfl rfl rfl rfl (ltb rfl) ?_
  refine mvR rfl rfl rfl rfl (ltb rfl) ?_
  refine run_ops_nil ?_
  refine run_ret_to ?_
  obtain rfl := some_t hM
  refine fin_x hG rfl rfl rfl (v' := .int .i64 r3) (by rfl) ⟨rfl, (show tk ≤ tk5 by omega), _, rfl, rfl⟩

def w_FnExactTypeOf (n : Nat) (l1 : List F) (x2 : Pf) : Option Bool :=
 (w_szTypeS n l1 1048576).bind fun r3 =>
 if r3 < 0 then
  some true
 else
  (w_szExpr n x2 r3).bind fun r11 =>
  if r11 < 0 then
   some true
  else
   jn (fun (i20 : Int) (i21 : Int) (i22 : Int) (i23 : Int) (l24 : List F) =>
    (w_toTypeS n l1).bind fun r129 =>
    (w_toExpr n x2).bind fun r136 =>
    (i_TypeOf n r129 r136).bind fun r143 =>
    (w_eqType n r143.1 (F.mk i22 i23 l24)).bind fun r160 =>
    if (!r160) = true then
     some false
    else
     if (r143.2.1 != i20) = true then
      some false
     else
      if (r143.2.2 != i21) = true then
       some false
      else
       (w_toTypeS n l1).bind fun r170 =>
       (w_eqTypeS n r129 r170).bind fun r177 =>
       if (!r177) = true then
        some false
       else
        (w_toExpr n x2).bind fun r185 =>
        (w_eqExpr n r136 r185).bind fun r192 =>
        if (!r192) = true then
         some false
        else
         (w_markTypeS r129 1).bind fun r200 =>
         (w_markExpr r136 r200.2).bind fun r209 =>
         if r209.2 < 0 then
          some false
         else
          (w_eqType n r143.1 (F.mk i22 i23 l24)).bind fun r223 =>
          if (!r223) = true then
           some false
          else
           if (r143.2.1 != i20) = true then
            some false
           else
            if (r143.2.2 != i21) = true then
             some false
            else
             (w_markType r143.1 1).bind fun r233 =>
             (w_heldType n (F.mk r143.1.kind r143.1.n r233.1) 1).bind fun r242 =>
             if r242 < 0 then
              some false
             else
              if (r242 != r233.2) = true then
               some false
              else
               jn (fun (i252 : Int) (i253 : Int) (i254 : Int) (i255 : Int) (l256 : List F) =>
                (w_eqType n (F.mk i254 i255 l256) (F.mk i22 i23 l24)).bind fun r361 =>
                if (!r361) = true then
                 some false
                else
                 if (i252 != i20) = true then
                  some false
                 else
                  if (i253 != i21) = true then
                   some false
                  else
                   (w_heldType n (F.mk r143.1.kind r143.1.n r233.1) 1).bind fun r371 =>
                   if r371 < 0 then
                    some false
                   else
                    if (r371 != r233.2) = true then
                     some false
                    else
                     some true) fun j251 =>
               (w_toTypeS n l1).bind fun r258 =>
               (w_toExpr n x2).bind fun r265 =>
               (i_TypeOf n r258 r265).bind fun r272 =>
               j251 r272.2.1 r272.2.2 r272.1.kind r272.1.n r272.1.kids) fun j19 =>
   (w_toTypeS n l1).bind fun r26 =>
   (w_toExpr n x2).bind fun r33 =>
   (s_TypeOf n r26 r33).bind fun r40 =>
   j19 r40.2.1 r40.2.2 r40.1.kind r40.1.n r40.1.kids

set_option maxRecDepth 100000 in
theorem w_FnExactTypeOf_ok (n : Nat) : ∀ (q1 : Nat) (f1 : Bool) (ks1 : List LF) (k2 : Int) (n2 : Int) (p2 : Nat) (e2 : Bool) (fs2 : List LF) (q2 : Nat) (f2 : Bool) (ks2 : List LP) {r : Bool}, w_FnExactTypeOf n (fers ks1) (Pf.mk k2 n2 (fers fs2) (pers ks2)) = some r → (∀ x ∈ fstoks q1 ks1, x = 0) → (∀ x ∈ fstoks p2 fs2, x = 0) → (∀ x ∈ pstoks q2 ks2, x = 0) → ∀ (O : Heap) (tk : Nat), O = (fun _ => none) → 2 ≤ tk → ACalls Go.Proofs.Try.prog 4 [.imm q1 3 f1 (fcellss ks1), .agg [.int .i64 k2, .int .i64 n2, .imm p2 3 e2 (fcellss fs2), .imm q2 4 f2 (pcellss ks2)]] O tk (RetX O tk (fun v tk' => v = .bool r)) := by
 intro q1 f1 ks1 k2 n2 p2 e2 fs2 q2 f2 ks2 r hM ho0 ho1 ho2 O tk hOn h2tk
 unfold w_FnExactTypeOf at hM
 refine acalls_of_run Go.Proofs.Try.func4 rfl rfl [] [] (Bor.nil _) [(0, .imm q1 3 f1 (fcellss ks1)), (1, .agg [.int .i64 k2, .int .i64 n2, .imm p2 3 e2 (fcellss fs2), .imm q2 4 f2 (pcellss ks2)])] (.cons (entS rfl) (.cons (.agg _) (.nil _))) (leb rfl) (fun _ h => by cases h) (fun S0 hO htk hfz => ?_)
 refine run_sr ?_
 refine run_op rfl (box_step (d := 3) rfl rfl rfl rfl rfl) rfl (ltb rfl) ?_
 refine mvR rfl rfl rfl rfl (ltb rfl) ?_
 refine run_ops_nil ?_
 refine run_sr ?_
 refine mvR rfl rfl rfl rfl (ltb rfl) ?_
 refine run_ops_nil ?_
 refine run_sr ?_
 refine mvL rfl rfl rfl rfl (ltb rfl) ?_
 refine mvL rfl rfl rfl rfl (ltb rfl) ?_
 obtain ⟨r3, hg4, hM⟩ := bind_t hM
 refine run_call rfl rfl rfl (ltb rfl) rfl rfl rfl (fun _ h => absurd h List.not_mem_nil) (w_szTypeS_ok n q1 f1 ks1 1048576 hg4 _ _) (callK_retX (fun v tk5 (hle6 : tk ≤ tk5) h7 => ?_))
 subst h7
 refine mvR rfl rfl rfl rfl (ltb rfl) ?_
 refine run_ops_nil ?_
 refine run_seq ?_
 refine run_sr ?_
 refine mvL rfl rfl rfl rfl (ltb rfl) ?_
 refine run_bin rfl rfl rfl rfl rfl rfl rfl (ltb rfl) ?_
 refine run_ops_nil ?_
 refine run_ifd rfl rfl (fun hb10 => ?_) (fun hb10 => ?_)
 ·replace hM := ite_t hb10 hM
  refine run_sr ?_
  refine mvR rfl rfl rfl rfl (ltb rfl) ?_
  refine run_ops_nil ?_
  refine run_ret_to ?_
  obtain rfl := some_t hM
  refine fin_x hG rfl rfl rfl (v' := .bool true) (by rfl) ⟨rfl, (show tk ≤ tk5 by omega), _, rfl, rfl⟩
 ·replace hM := ite_f hb10 hM
  refine run_skip ?_
  refine run_sr ?_
  refine run_ld hG rfl rfl rfl rfl rfl (ltb rfl) ?_
  refine mvL rfl rfl rfl rfl (ltb rfl) ?_
  obtain ⟨r11, hg12, hM⟩ := bind_t hM
  refine run_call rfl rfl rfl (ltb rfl) rfl rfl rfl (fun _ h => absurd h List.not_mem_nil) (w_szExpr_ok n k2 n2 p2 e2 fs2 q2 f2 ks2 r3 hg12 _ _) (callK_retX (fun v tk13 (hle14 : tk5 ≤ tk13) h15 => ?_))
  subst h15
  refine mvR rfl rfl rfl rfl (ltb rfl) ?_
  refine run_ops_nil ?_
  refine run_seq ?_
  refine run_sr ?_
  refine mvL rfl rfl rfl rfl (ltb rfl) ?_
  refine run_bin rfl rfl rfl rfl rfl rfl rfl (ltb rfl) ?_
  refine run_ops_nil ?_
  refine run_sub_code (σ' := ⟨[(0, .imm q1 3 f1 (fcellss ks1)), (3, .optr (.loc 3) 0 0), (4, .bool false), (29, .bool (decide (r11 < 0)))], [(3, ⟨25, 4, true, [[.int .i64 k2, .int .i64 n2, .imm p2 3 e2 (fcellss fs2), .imm q2 4 f2 (pcellss ks2)]]⟩)], [], O, tk13⟩) (Sub.env [(0, .imm q1 3 f1 (fcellss ks1)), (3, .optr (.loc 3) 0 0), (4, .bool false), (29, .bool (decide (r11 < 0)))] ⟨rfl, rfl, rfl, rfl, trivial⟩) ?_
  refine run_ifd rfl rfl (fun hb18 => ?_) (fun hb18 => ?_)
  ·replace hM := ite_t hb18 hM
   refine run_sr ?_
   refine mvR rfl rfl rfl rfl (ltb rfl) ?_
   refine run_ops_nil ?_
   refine run_ret_to ?_
   obtain rfl := some_t hM
   refine fin_x hG rfl rfl rfl (v' := .bool true) (by rfl) ⟨rfl, (show tk ≤ tk13 by omega), _, rfl, rfl⟩
  ·replace hM := ite_f hb18 hM
   refine run_skip ?_
   refine run_seq ?_
   obtain ⟨j19, hj383, hM⟩ := jn_t hM
   refine run_cutL [.code _] (fun σ' => ∃ (i20 : Int) (i21 : Int) (i22 : Int) (i23 : Int) (q24 : Nat) (f24 : Bool) (ks24 : List LF) (tkj19 : Nat), tk13 ≤ tkj19 ∧ Fr tk13 tkj19 (fstoks q24 ks24) ∧ j19 i20 i21 i22 i23 (fers ks24) = some r ∧ Sub ⟨Go.Proofs.Try.prog, S0, Go.Proofs.Try.f4.ntmps, [], fun _ => False, []⟩ σ' ⟨[(0, .imm q1 3 f1 (fcellss ks1)), (3, .optr (.loc 3) 0 0), (4, .bool false), (6, .optr (.loc 6) 0 0), (7, .int .i64 i20), (8, .int .i64 i21)], [(6, ⟨39, 3, true, [[.int .i64 i22, .int .i64 i23, .imm q24 3 f24 (fcellss ks24)]]⟩), (3, ⟨25, 4, true, [[.int .i64 k2, .int .i64 n2, .imm p2 3 e2 (fcellss fs2), .imm q2 4 f2 (pcellss ks2)]]⟩)], [], O, tkj19⟩) rfl ?_ ?_
   ·refine run_draw [] (n := 13) mixed rfl (fun _ h => absurd h List.not_mem_nil) ?_
    refine AAny.take (i := 0) rfl (by kernel_rfl) (by kernel_rfl) (by kernel_rfl) rfl rfl (ltb rfl) ((move_step (.inl rfl) rfl).rd _) ?_
    refine AAny.take (i := 2) rfl (by kernel_rfl) (by kernel_rfl) (by kernel_rfl) rfl rfl (ltb rfl) (aload_rd hG rfl rfl rfl (by first | (simp [ldok]; done) | exact List.not_mem_nil | trivial)) ?_
    refine AAny.eachN (rs := [1, 9]) (by kernel_rfl) (fun h => by cases h) (fun i hi => ?_)
    simp only [List.mem_cons, List.not_mem_nil, or_false] at hi
    rcases hi with rfl | rfl
    ·refine AOpN.of ?_
     obtain ⟨r26, hg27, hM⟩ := bind_t hM
     refine AOp.call rfl rfl rfl rfl (ltb rfl) rfl rfl rfl (fun _ h => absurd h List.not_mem_nil) (fun _ h => absurd h List.not_mem_nil) (w_toTypeS_ok n q1 f1 ks1 hg27 _ _) (callK_retX (fun v tk28 (hle29 : tk13 ≤ tk28) h30 => ?_))
     obtain ⟨q31, f31, ks31, rfl, rfl, hf32⟩ := h30
     refine AAny.eachN (rs := [3, 9]) (by kernel_rfl) (fun h => by cases h) (fun i hi => ?_)
     simp only [List.mem_cons, List.not_mem_nil, or_false] at hi
     rcases hi with rfl | rfl
     ·refine AOpN.of ?_
      obtain ⟨r33, hg34, hM⟩ := bind_t hM
      refine AOp.call rfl rfl rfl rfl (ltb rfl) rfl rfl rfl (fun _ h => absurd h List.not_mem_nil) (fun _ h => absurd h List.not_mem_nil) (w_toExpr_ok n k2 n2 p2 e2 fs2 q2 f2 ks2 hg34 _ _) (callK_retX (fun v tk35 (hle36 : tk28 ≤ tk35) h37 => ?_))
      obtain ⟨k38, n38, p38, e38, fs38, q38, f38, ks38, rfl, rfl, hf39⟩ := h37
      refine AAny.eachN (rs := [4, 9]) (by kernel_rfl) (fun h => by cases h) (fun i hi => ?_)
      simp only [List.mem_cons, List.not_mem_nil, or_false] at hi
      rcases hi with rfl | rfl
      ·refine AOpN.of ?_
       obtain ⟨r40, hg41, hM⟩ := bind_t hM
       refine AOp.call rfl rfl rfl rfl (ltb rfl) rfl rfl rfl (fun _ h => absurd h List.not_mem_nil) (fun _ h => absurd h List.not_mem_nil) (s_TypeOf_ok n q31 f31 ks31 k38 n38 p38 e38 fs38 q38 f38 ks38 hg41 _ _) (callK_retX (fun v tk42 (hle43 : tk35 ≤ tk42) h44 => ?_))
       obtain ⟨ra51, ra52, ra53, va54, va55, va56, rfl, rfl, ⟨k45, n45, q45, f45, ks45, rfl, rfl, hf46⟩, rfl, rfl⟩ := h44
       refine AAny.take (i := 5) rfl (by kernel_rfl) (by kernel_rfl) (by kernel_rfl) rfl rfl (ltb rfl) ((move_step (.inl rfl) rfl).rd _) ?_
       refine AAny.take (i := 6) rfl (by kernel_rfl) (by kernel_rfl) (by kernel_rfl) rfl rfl (ltb rfl) ((extract_step rfl rfl rfl).rd _) ?_
       refine AAny.take (i := 7) rfl (by kernel_rfl) (by kernel_rfl) (by kernel_rfl) rfl rfl (ltb rfl) ((extract_step rfl rfl rfl).rd _) ?_
       refine AAny.take (i := 8) rfl (by kernel_rfl) (by kernel_rfl) (by kernel_rfl) rfl rfl (ltb rfl) ((extract_step rfl rfl rfl).rd _) ?_
       refine AAny.eachN (rs := [9]) (by kernel_rfl) (fun h => by cases h) (fun i hi => ?_)
       simp only [List.mem_cons, List.not_mem_nil, or_false] at hi
       subst hi
       ·refine AOpN.alloc hG rfl rfl rfl (ltb rfl) rfl rfl rfl ?_
        refine AAny.one (i := 10) (by kernel_rfl) (AOp.step0 rfl rfl rfl (store_step hG rfl rfl rfl rfl rfl rfl rfl rfl) (by intro x hx; simp only [stW, List.mem_cons, List.not_mem_nil, or_false] at hx; subst hx; simp) ?_)
        refine AAny.take (i := 11) rfl (by kernel_rfl) (by kernel_rfl) (by kernel_rfl) rfl rfl (ltb rfl) ((move_step (.inr rfl) rfl).rd _) ?_
        refine AAny.take (i := 12) rfl (by kernel_rfl) (by kernel_rfl) (by kernel_rfl) rfl rfl (ltb rfl) ((move_step (.inr rfl) rfl).rd _) ?_
        refine AAny.done (by kernel_rfl) ?_
        exact ⟨ra52, ra53, k45, n45, q45, f45, ks45, tk42, (show tk13 ≤ tk42 by omega), (show Fr tk13 tk42 _ from ((show Fr tk35 tk42 _ from hf46 rfl)).mono (by omega) (by omega)), hM, Sub.env [(0, .imm q1 3 f1 (fcellss ks1)), (3, .optr (.loc 3) 0 0), (4, .bool false), (6, .optr (.loc 6) 0 0), (7, .int .i64 ra52), (8, .int .i64 ra53)] ⟨rfl, rfl, rfl, rfl, rfl, rfl, trivial⟩⟩
      ·refine AOpN.alloc hG rfl rfl rfl (ltb rfl) rfl rfl rfl ?_
       obtain ⟨r57, hg58, hM⟩ := bind_t hM
       refine AAny.one (i := 4) (by kernel_rfl) (AOp.call rfl rfl rfl rfl (ltb rfl) rfl rfl rfl (fun _ h => absurd h List.not_mem_nil) (fun _ h => absurd h List.not_mem_nil) (s_TypeOf_ok n q31 f31 ks31 k38 n38 p38 e38 fs38 q38 f38 ks38 hg58 _ _) (callK_retX (fun v tk59 (hle60 : tk35 ≤ tk59) h61 => ?_)))
       obtain ⟨ra68, ra69, ra70, va71, va72, va73, rfl, rfl, ⟨k62, n62, q62, f62, ks62, rfl, rfl, hf63⟩, rfl, rfl⟩ := h61
       refine AAny.take (i := 5) rfl (by kernel_rfl) (by kernel_rfl) (by kernel_rfl) rfl rfl (ltb rfl) ((move_step (.inl rfl) rfl).rd _) ?_
       refine AAny.take (i := 6) rfl (by kernel_rfl) (by kernel_rfl) (by kernel_rfl) rfl rfl (ltb rfl) ((extract_step rfl rfl rfl).rd _) ?_
       refine AAny.take (i := 7) rfl (by kernel_rfl) (by kernel_rfl) (by kernel_rfl) rfl rfl (ltb rfl) ((extract_step rfl rfl rfl).rd _) ?_
       refine AAny.take (i := 8) rfl (by kernel_rfl) (by kernel_rfl) (by kernel_rfl) rfl rfl (ltb rfl) ((extract_step rfl rfl rfl).rd _) ?_
       refine AAny.one (i := 10) (by kernel_rfl) (AOp.step0 rfl rfl rfl (store_step hG rfl rfl rfl rfl rfl rfl rfl rfl) (by intro x hx; simp only [stW, List.mem_cons, List.not_mem_nil, or_false] at hx; subst hx; simp) ?_)
       refine AAny.take (i := 11) rfl (by kernel_rfl) (by kernel_rfl) (by kernel_rfl) rfl rfl (ltb rfl) ((move_step (.inr rfl) rfl).rd _) ?_
       refine AAny.take (i := 12) rfl (by kernel_rfl) (by kernel_rfl) (by kernel_rfl) rfl rfl (ltb rfl) ((move_step (.inr rfl) rfl).rd _) ?_
       refine AAny.done (by kernel_rfl) ?_
       exact ⟨ra69, ra70, k62, n62, q62, f62, ks62, tk59, (show tk13 ≤ tk59 by omega), (show Fr tk13 tk59 _ from ((show Fr tk35 tk59 _ from hf63 rfl)).mono (by omega) (by omega)), hM, Sub.env [(0, .imm q1 3 f1 (fcellss ks1)), (3, .optr (.loc 3) 0 0), (4, .bool false), (6, .optr (.loc 6) 0 0), (7, .int .i64 ra69), (8, .int .i64 ra70)] ⟨rfl, rfl, rfl, rfl, rfl, rfl, trivial⟩⟩
     ·refine AOpN.alloc hG rfl rfl rfl (ltb rfl) rfl rfl rfl ?_
      obtain ⟨r74, hg75, hM⟩ := bind_t hM
      refine AAny.one (i := 3) (by kernel_rfl) (AOp.call rfl rfl rfl rfl (ltb rfl) rfl rfl rfl (fun _ h => absurd h List.not_mem_nil) (fun _ h => absurd h List.not_mem_nil) (w_toExpr_ok n k2 n2 p2 e2 fs2 q2 f2 ks2 hg75 _ _) (callK_retX (fun v tk76 (hle77 : tk28 ≤ tk76) h78 => ?_)))
      obtain ⟨k79, n79, p79, e79, fs79, q79, f79, ks79, rfl, rfl, hf80⟩ := h78
      obtain ⟨r81, hg82, hM⟩ := bind_t hM
      refine AAny.one (i := 4) (by kernel_rfl) (AOp.call rfl rfl rfl rfl (ltb rfl) rfl rfl rfl (fun _ h => absurd h List.not_mem_nil) (fun _ h => absurd h List.not_mem_nil) (s_TypeOf_ok n q31 f31 ks31 k79 n79 p79 e79 fs79 q79 f79 ks79 hg82 _ _) (callK_retX (fun v tk83 (hle84 : tk76 ≤ tk83) h85 => ?_)))
      obtain ⟨ra92, ra93, ra94, va95, va96, va97, rfl, rfl, ⟨k86, n86, q86, f86, ks86, rfl, rfl, hf87⟩, rfl, rfl⟩ := h85
      refine AAny.take (i := 5) rfl (by kernel_rfl) (by kernel_rfl) (by kernel_rfl) rfl rfl (ltb rfl) ((move_step (.inl rfl) rfl).rd _) ?_
      refine AAny.take (i := 6) rfl (by kernel_rfl) (by kernel_rfl) (by kernel_rfl) rfl rfl (ltb rfl) ((extract_step rfl rfl rfl).rd _) ?_
      refine AAny.take (i := 7) rfl (by kernel_rfl) (by kernel_rfl) (by kernel_rfl) rfl rfl (ltb rfl) ((extract_step rfl rfl rfl).rd _) ?_
      refine AAny.take (i := 8) rfl (by kernel_rfl) (by kernel_rfl) (by kernel_rfl) rfl rfl (ltb rfl) ((extract_step rfl rfl rfl).rd _) ?_
      refine AAny.one (i := 10) (by kernel_rfl) (AOp.step0 rfl rfl rfl (store_step hG rfl rfl rfl rfl rfl rfl rfl rfl) (by intro x hx; simp only [stW, List.mem_cons, List.not_mem_nil, or_false] at hx; subst hx; simp) ?_)
      refine AAny.take (i := 11) rfl (by kernel_rfl) (by kernel_rfl) (by kernel_rfl) rfl rfl (ltb rfl) ((move_step (.inr rfl) rfl).rd _) ?_
      refine AAny.take (i := 12) rfl (by kernel_rfl) (by kernel_rfl) (by kernel_rfl) rfl rfl (ltb rfl) ((move_step (.inr rfl) rfl).rd _) ?_
      refine AAny.done (by kernel_rfl) ?_
      exact ⟨ra93, ra94, k86, n86, q86, f86, ks86, tk83, (show tk13 ≤ tk83 by omega), (show Fr tk13 tk83 _ from ((show Fr tk76 tk83 _ from hf87 rfl)).mono (by omega) (by omega)), hM, Sub.env [(0, .imm q1 3 f1 (fcellss ks1)), (3, .optr (.loc 3) 0 0), (4, .bool false), (6, .optr (.loc 6) 0 0), (7, .int .i64 ra93), (8, .int .i64 ra94)] ⟨rfl, rfl, rfl, rfl, rfl, rfl, trivial⟩⟩
    ·refine AOpN.alloc hG rfl rfl rfl (ltb rfl) rfl rfl rfl ?_
     obtain ⟨r98, hg99, hM⟩ := bind_t hM
     refine AAny.one (i := 1) (by kernel_rfl) (AOp.call rfl rfl rfl rfl (ltb rfl) rfl rfl rfl (fun _ h => absurd h List.not_mem_nil) (fun _ h => absurd h List.not_mem_nil) (w_toTypeS_ok n q1 f1 ks1 hg99 _ _) (callK_retX (fun v tk100 (hle101 : tk13 ≤ tk100) h102 => ?_)))
     obtain ⟨q103, f103, ks103, rfl, rfl, hf104⟩ := h102
     obtain ⟨r105, hg106, hM⟩ := bind_t hM
     refine AAny.one (i := 3) (by kernel_rfl) (AOp.call rfl rfl rfl rfl (ltb rfl) rfl rfl rfl (fun _ h => absurd h List.not_mem_nil) (fun _ h => absurd h List.not_mem_nil) (w_toExpr_ok n k2 n2 p2 e2 fs2 q2 f2 ks2 hg106 _ _) (callK_retX (fun v tk107 (hle108 : tk100 ≤ tk107) h109 => ?_)))
     obtain ⟨k110, n110, p110, e110, fs110, q110, f110, ks110, rfl, rfl, hf111⟩ := h109
     obtain ⟨r112, hg113, hM⟩ := bind_t hM
     refine AAny.one (i := 4) (by kernel_rfl) (AOp.call rfl rfl rfl rfl (ltb rfl) rfl rfl rfl (fun _ h => absurd h List.not_mem_nil) (fun _ h => absurd h List.not_mem_nil) (s_TypeOf_ok n q103 f103 ks103 k110 n110 p110 e110 fs110 q110 f110 ks110 hg113 _ _) (callK_retX (fun v tk114 (hle115 : tk107 ≤ tk114) h116 => ?_)))
     obtain ⟨ra123, ra124, ra125, va126, va127, va128, rfl, rfl, ⟨k117, n117, q117, f117, ks117, rfl, rfl, hf118⟩, rfl, rfl⟩ := h116
     refine AAny.take (i := 5) rfl (by kernel_rfl) (by kernel_rfl) (by kernel_rfl) rfl rfl (ltb rfl) ((move_step (.inl rfl) rfl).rd _) ?_
     refine AAny.take (i := 6) rfl (by kernel_rfl) (by kernel_rfl) (by kernel_rfl) rfl rfl (ltb rfl) ((extract_step rfl rfl rfl).rd _) ?_
     refine AAny.take (i := 7) rfl (by kernel_rfl) (by kernel_rfl) (by kernel_rfl) rfl rfl (ltb rfl) ((extract_step rfl rfl rfl).rd _) ?_
     refine AAny.take (i := 8) rfl (by kernel_rfl) (by kernel_rfl) (by kernel_rfl) rfl rfl (ltb rfl) ((extract_step rfl rfl rfl).rd _) ?_
     refine AAny.one (i := 10) (by kernel_rfl) (AOp.step0 rfl rfl rfl (store_step hG rfl rfl rfl rfl rfl rfl rfl rfl) (by intro x hx; simp only [stW, List.mem_cons, List.not_mem_nil, or_false] at hx; subst hx; simp) ?_)
     refine AAny.take (i := 11) rfl (by kernel_rfl) (by kernel_rfl) (by kernel_rfl) rfl rfl (ltb rfl) ((move_step (.inr rfl) rfl).rd _) ?_
     refine AAny.take (i := 12) rfl (by kernel_rfl) (by kernel_rfl) (by kernel_rfl) rfl rfl (ltb rfl) ((move_step (.inr rfl) rfl).rd _) ?_
     refine AAny.done (by kernel_rfl) ?_
     exact ⟨ra124, ra125, k117, n117, q117, f117, ks117, tk114, (show tk13 ≤ tk114 by omega), (show Fr tk13 tk114 _ from ((show Fr tk107 tk114 _ from hf118 rfl)).mono (by omega) (by omega)), hM, Sub.env [(0, .imm q1 3 f1 (fcellss ks1)), (3, .optr (.loc 3) 0 0), (4, .bool false), (6, .optr (.loc 6) 0 0), (7, .int .i64 ra124), (8, .int .i64 ra125)] ⟨rfl, rfl, rfl, rfl, rfl, rfl, trivial⟩⟩
   ·clear hM
    rintro σ' ⟨i20, i21, i22, i23, q24, f24, ks24, tkj19, hle382, hfr25, hM, hsub⟩
    rw [hj383] at hM
    clear hj383
    refine run_sub_code hsub ?_
    refine run_sr ?_
    refine mvL rfl rfl rfl rfl (ltb rfl) ?_
    obtain ⟨r129, hg130, hM⟩ := bind_t hM
    refine run_call rfl rfl rfl (ltb rfl) rfl rfl rfl (fun _ h => absurd h List.not_mem_nil) (w_toTypeS_ok n q1 f1 ks1 hg130 _ _) (callK_retX (fun v tk131 (hle132 : tkj19 ≤ tk131) h133 => ?_))
    obtain ⟨q134, f134, ks134, rfl, rfl, hf135⟩ := h133
    refine mvR rfl rfl rfl rfl (ltb rfl) ?_
    refine run_ops_nil ?_
    refine run_sr ?_
    refine run_ld hG rfl rfl rfl rfl rfl (ltb rfl) ?_
    obtain ⟨r136, hg137, hM⟩ := bind_t hM
    refine run_call rfl rfl rfl (ltb rfl) rfl rfl rfl (fun _ h => absurd h List.not_mem_nil) (w_toExpr_ok n k2 n2 p2 e2 fs2 q2 f2 ks2 hg137 _ _) (callK_retX (fun v tk138 (hle139 : tk131 ≤ tk138) h140 => ?_))
    obtain ⟨k141, n141, p141, e141, fs141, q141, f141, ks141, rfl, rfl, hf142⟩ := h140
    refine run_op rfl (alloc_step (d := 10) hG rfl rfl rfl) rfl (ltb rfl) ?_
    refine run_op0 rfl (store_step hG rfl rfl rfl rfl rfl rfl rfl rfl) rfl ?_
    refine run_ops_nil ?_
    refine run_sr ?_
    refine mvL rfl rfl rfl rfl (ltb rfl) ?_
    refine run_ld hG rfl rfl rfl rfl rfl (ltb rfl) ?_
    obtain ⟨r143, hg144, hM⟩ := bind_t hM
    refine run_call rfl rfl rfl (ltb rfl) rfl rfl rfl (fun _ h => absurd h List.not_mem_nil) (i_TypeOf_ok n q134 f134 ks134 k141 n141 p141 e141 fs141 q141 f141 ks141 hg144 _ _) (callK_retX (fun v tk145 (hle146 : tk138 ≤ tk145) h147 => ?_))
    obtain ⟨ra154, ra155, ra156, va157, va158, va159, rfl, rfl, ⟨k148, n148, q148, f148, ks148, rfl, rfl, hf149⟩, rfl, rfl⟩ := h147
    refine mvL rfl rfl rfl rfl (ltb rfl) ?_
    refine run_pu rfl (extract_step rfl rfl rfl) rfl (ltb rfl) ?_
    refine run_pu rfl (extract_step rfl rfl rfl) rfl (ltb rfl) ?_
    refine run_pu rfl (extract_step rfl rfl rfl) rfl (ltb rfl) ?_
    refine run_op rfl (alloc_step (d := 11) hG rfl rfl rfl) rfl (ltb rfl) ?_
    refine run_op0 rfl (store_step hG rfl rfl rfl rfl rfl rfl rfl rfl) rfl ?_
    refine mvR rfl rfl rfl rfl (ltb rfl) ?_
    refine mvR rfl rfl rfl rfl (ltb rfl) ?_
    refine run_ops_nil ?_
    refine run_sub_code (σ' := ⟨[(0, .imm q1 3 f1 (fcellss ks1)), (3, .optr (.loc 3) 0 0), (4, .bool false), (6, .optr (.loc 6) 0 0), (7, .int .i64 i20), (8, .int .i64 i21), (9, .imm q134 3 f134 (fcellss ks134)), (10, .optr (.loc 10) 0 0), (11, .optr (.loc 11) 0 0), (12, .int .i64 ra155), (13, .int .i64 ra156)], [(11, ⟨39, 3, true, [[.int .i64 k148, .int .i64 n148, .imm q148 3 f148 (fcellss ks148)]]⟩), (10, ⟨30, 4, true, [[.int .i64 k141, .int .i64 n141, .imm p141 3 e141 (fcellss fs141), .imm q141 4 f141 (pcellss ks141)]]⟩), (6, ⟨39, 3, true, [[.int .i64 i22, .int .i64 i23, .imm q24 3 f24 (fcellss ks24)]]⟩), (3, ⟨25, 4, true, [[.int .i64 k2, .int .i64 n2, .imm p2 3 e2 (fcellss fs2), .imm q2 4 f2 (pcellss ks2)]]⟩)], [], O, tk145⟩) (Sub.env [(0, .imm q1 3 f1 (fcellss ks1)), (3, .optr (.loc 3) 0 0), (4, .bool false), (6, .optr (.loc 6) 0 0), (7, .int .i64 i20), (8, .int .i64 i21), (9, .imm q134 3 f134 (fcellss ks134)), (10, .optr (.loc 10) 0 0), (11, .optr (.loc 11) 0 0), (12, .int .i64 ra155), (13, .int .i64 ra156)] ⟨rfl, rfl, rfl, rfl, rfl, rfl, rfl, rfl, rfl, rfl, rfl, trivial⟩) ?_
    refine run_seq ?_
    refine run_sr ?_
    refine run_ld hG rfl rfl rfl rfl rfl (ltb rfl) ?_
    refine run_ld hG rfl rfl rfl rfl rfl (ltb rfl) ?_
    obtain ⟨r160, hg161, hM⟩ := bind_t hM
    refine run_call rfl rfl rfl (ltb rfl) rfl rfl rfl (fun _ h => absurd h List.not_mem_nil) (w_eqType_ok n k148 n148 q148 f148 ks148 i22 i23 q24 f24 ks24 hg161 _ _) (callK_retX (fun v tk162 (hle163 : tk145 ≤ tk162) h164 => ?_))
    subst h164
    refine run_pu rfl (aun_step rfl rfl rfl) rfl (ltb rfl) ?_
    refine mvL rfl rfl rfl rfl (ltb rfl) ?_
    refine run_splitb (i := 54) rfl (fun hb167 => ?_) (fun hb167 => ?_)
    ·replace hM := ite_t hb167 hM
     refine run_off (on_of rfl rfl rfl rfl) rfl (ltb rfl) ?_
     refine run_off (on_of rfl rfl rfl rfl) rfl (ltb rfl) ?_
     refine run_off (on_of rfl rfl rfl rfl) rfl (ltb rfl) ?_
     refine run_pu rfl (pick_step rfl rfl rfl) rfl (ltb rfl) ?_
     refine mvL rfl rfl rfl rfl (ltb rfl) ?_
     refine run_off (on_of rfl rfl rfl rfl) rfl (ltb rfl) ?_
     refine run_off (on_of rfl rfl rfl rfl) rfl (ltb rfl) ?_
     refine run_off (on_of rfl rfl rfl rfl) rfl (ltb rfl) ?_
     refine run_pu rfl (pick_step rfl rfl rfl) rfl (ltb rfl) ?_
     refine run_ops_nil ?_
     refine run_if rfl rfl (fun _ => ?_) (fun h => by cases h)
     refine run_sr ?_
     refine mvR rfl rfl rfl rfl (ltb rfl) ?_
     refine run_ops_nil ?_
     refine run_ret_to ?_
     obtain rfl := some_t hM
     refine fin_x hG rfl rfl rfl (v' := .bool false) (by rfl) ⟨rfl, (show tk ≤ tk162 by omega), _, rfl, rfl⟩
    ·replace hM := ite_f hb167 hM
     refine run_puG (on_of rfl rfl rfl rfl) (move_step (.inl rfl) rfl) rfl (ltb rfl) ?_
     refine run_puG (on_of rfl rfl rfl rfl) (move_step (.inl rfl) rfl) rfl (ltb rfl) ?_
     refine run_puG (on_of rfl rfl rfl rfl) (abin_step rfl rfl rfl rfl (fun _ h => by cases h)) rfl (ltb rfl) ?_
     refine run_pu rfl (pick_step rfl rfl rfl) rfl (ltb rfl) ?_
     refine mvL rfl rfl rfl rfl (ltb rfl) ?_
     refine run_splitb (i := 59) rfl (fun hb168 => ?_) (fun hb168 => ?_)
     ·replace hM := ite_t hb168 hM
      refine run_off (on_of rfl rfl rfl rfl) rfl (ltb rfl) ?_
      refine run_off (on_of rfl rfl rfl rfl) rfl (ltb rfl) ?_
      refine run_off (on_of rfl rfl rfl rfl) rfl (ltb rfl) ?_
      refine run_pu rfl (pick_step rfl rfl rfl) rfl (ltb rfl) ?_
      refine run_ops_nil ?_
      refine run_if rfl rfl (fun _ => ?_) (fun h => by cases h)
      refine run_sr ?_
      refine mvR rfl rfl rfl rfl (ltb rfl) ?_
      refine run_ops_nil ?_
      refine run_ret_to ?_
      obtain rfl := some_t hM
      refine fin_x hG rfl rfl rfl (v' := .bool false) (by rfl) ⟨rfl, (show tk ≤ tk162 by omega), _, rfl, rfl⟩
     ·replace hM := ite_f hb168 hM
      refine run_puG (on_of rfl rfl rfl rfl) (move_step (.inl rfl) rfl) rfl (ltb rfl) ?_
      refine run_puG (on_of rfl rfl rfl rfl) (move_step (.inl rfl) rfl) rfl (ltb rfl) ?_
      refine run_puG (on_of rfl rfl rfl rfl) (abin_step rfl rfl rfl rfl (fun _ h => by cases h)) rfl (ltb rfl) ?_
      refine run_pu rfl (pick_step rfl rfl rfl) rfl (ltb rfl) ?_
      refine run_ops_nil ?_
      refine run_sub_code (σ' := ⟨[(0, .imm q1 3 f1 (fcellss ks1)), (3, .optr (.loc 3) 0 0), (4, .bool false), (6, .optr (.loc 6) 0 0), (7, .int .i64 i20), (8, .int .i64 i21), (9, .imm q134 3 f134 (fcellss ks134)), (10, .optr (.loc 10) 0 0), (11, .optr (.loc 11) 0 0), (12, .int .i64 ra155), (13, .int .i64 ra156), (63, .bool (ra156 != i21))], [(11, ⟨39, 3, true, [[.int .i64 k148, .int .i64 n148, .imm q148 3 f148 (fcellss ks148)]]⟩), (10, ⟨30, 4, true, [[.int .i64 k141, .int .i64 n141, .imm p141 3 e141 (fcellss fs141), .imm q141 4 f141 (pcellss ks141)]]⟩), (6, ⟨39, 3, true, [[.int .i64 i22, .int .i64 i23, .imm q24 3 f24 (fcellss ks24)]]⟩), (3, ⟨25, 4, true, [[.int .i64 k2, .int .i64 n2, .imm p2 3 e2 (fcellss fs2), .imm q2 4 f2 (pcellss ks2)]]⟩)], [], O, tk162⟩) (Sub.env [(0, .imm q1 3 f1 (fcellss ks1)), (3, .optr (.loc 3) 0 0), (4, .bool false), (6, .optr (.loc 6) 0 0), (7, .int .i64 i20), (8, .int .i64 i21), (9, .imm q134 3 f134 (fcellss ks134)), (10, .optr (.loc 10) 0 0), (11, .optr (.loc 11) 0 0), (12, .int .i64 ra155), (13, .int .i64 ra156), (63, .bool (ra156 != i21))] ⟨rfl, rfl, rfl, rfl, rfl, rfl, rfl, rfl, rfl, rfl, rfl, rfl, trivial⟩) ?_
      refine run_ifb rfl rfl (fun hb169 => ?_) (fun hb169 => ?_)
      ·replace hM := ite_t hb169 hM
       refine run_sr ?_
       refine mvR rfl rfl rfl rfl (ltb rfl) ?_
       refine run_ops_nil ?_
       refine run_ret_to ?_
       obtain rfl := some_t hM
       refine fin_x hG rfl rfl rfl (v' := .bool false) (by rfl) ⟨rfl, (show tk ≤ tk162 by omega), _, rfl, rfl⟩
      ·replace hM := ite_f hb169 hM
       refine run_skip ?_
       refine run_seq ?_
       refine run_sr ?_
       refine mvL rfl rfl rfl rfl (ltb rfl) ?_
       refine mvL rfl rfl rfl rfl (ltb rfl) ?_
       obtain ⟨r170, hg171, hM⟩ := bind_t hM
       refine run_call rfl rfl rfl (ltb rfl) rfl rfl rfl (fun _ h => absurd h List.not_mem_nil) (w_toTypeS_ok n q1 f1 ks1 hg171 _ _) (callK_retX (fun v tk172 (hle173 : tk162 ≤ tk172) h174 => ?_))
       obtain ⟨q175, f175, ks175, rfl, rfl, hf176⟩ := h174
       obtain ⟨r177, hg178, hM⟩ := bind_t hM
       refine run_call rfl rfl rfl (ltb rfl) rfl rfl rfl (fun _ h => absurd h List.not_mem_nil) (w_eqTypeS_ok n q134 f134 ks134 q175 f175 ks175 hg178 _ _) (callK_retX (fun v tk179 (hle180 : tk172 ≤ tk179) h181 => ?_))
       subst h181
       refine run_pu rfl (aun_step rfl rfl rfl) rfl (ltb rfl) ?_
       refine run_ops_nil ?_
       refine run_ifb rfl rfl (fun hb184 => ?_) (fun hb184 => ?_)
       ·replace hM := ite_t hb184 hM
        refine run_sr ?_
        refine mvR rfl rfl rfl rfl (ltb rfl) ?_
        refine run_ops_nil ?_
        refine run_ret_to ?_
        obtain rfl := some_t hM
        refine fin_x hG rfl rfl rfl (v' := .bool false) (by rfl) ⟨rfl, (show tk ≤ tk179 by omega), _, rfl, rfl⟩
       ·replace hM := ite_f hb184 hM
        refine run_skip ?_
        refine run_seq ?_
        refine run_seq ?_
        refine run_draw [] (n := 5) mixed rfl (fun _ h => absurd h List.not_mem_nil) ?_
        refine AAny.take (i := 0) rfl (by kernel_rfl) (by kernel_rfl) (by kernel_rfl) rfl rfl (ltb rfl) (aload_rd hG rfl rfl rfl (by first | (simp [ldok]; done) | exact List.not_mem_nil | trivial)) ?_
        refine AAny.take (i := 1) rfl (by kernel_rfl) (by kernel_rfl) (by kernel_rfl) rfl rfl (ltb rfl) (aload_rd hG rfl rfl rfl (by first | (simp [ldok]; done) | exact List.not_mem_nil | trivial)) ?_
        obtain ⟨r185, hg186, hM⟩ := bind_t hM
        refine AAny.one (i := 2) (by kernel_rfl) (AOp.call rfl rfl rfl rfl (ltb rfl) rfl rfl rfl (fun _ h => absurd h List.not_mem_nil) (fun _ h => absurd h List.not_mem_nil) (w_toExpr_ok n k2 n2 p2 e2 fs2 q2 f2 ks2 hg186 _ _) (callK_retX (fun v tk187 (hle188 : tk179 ≤ tk187) h189 => ?_)))
        obtain ⟨k190, n190, p190, e190, fs190, q190, f190, ks190, rfl, rfl, hf191⟩ := h189
        obtain ⟨r192, hg193, hM⟩ := bind_t hM
        refine AAny.one (i := 3) (by kernel_rfl) (AOp.call rfl rfl rfl rfl (ltb rfl) rfl rfl rfl (fun _ h => absurd h List.not_mem_nil) (fun _ h => absurd h List.not_mem_nil) (w_eqExpr_ok n k141 n141 p141 e141 fs141 q141 f141 ks141 k190 n190 p190 e190 fs190 q190 f190 ks190 hg193 _ _) (callK_retX (fun v tk194 (hle195 : tk187 ≤ tk194) h196 => ?_)))
        subst h196
        refine AAny.take (i := 4) rfl (by kernel_rfl) (by kernel_rfl) (by kernel_rfl) rfl rfl (ltb rfl) ((aun_step rfl rfl rfl).rd _) ?_
        refine AAny.done (by kernel_rfl) ?_
        refine run_ifb rfl rfl (fun hb199 => ?_) (fun hb199 => ?_)
        ·replace hM := ite_t hb199 hM
         refine run_sr ?_
         refine mvR rfl rfl rfl rfl (ltb rfl) ?_
         refine run_ops_nil ?_
         refine run_ret_to ?_
         obtain rfl := some_t hM
         refine fin_x hG rfl rfl rfl (v' := .bool false) (by rfl) ⟨rfl, (show tk ≤ tk194 by omega), _, rfl, rfl⟩
        ·replace hM := ite_f hb199 hM
         refine run_skip ?_
         refine run_sr ?_
         refine mvR rfl rfl rfl rfl (ltb rfl) ?_
         refine run_ops_nil ?_
         refine run_sr ?_
         refine mvL rfl rfl rfl rfl (ltb rfl) ?_
         refine mvL rfl rfl rfl rfl (ltb rfl) ?_
         obtain ⟨r200, hg201, hM⟩ := bind_t hM
         refine run_callT rfl rfl rfl (ltb rfl) rfl rfl rfl rfl rfl hOn (fun x hx => by have := ((show Fr tkj19 tk131 _ from (show Fr tkj19 tk131 _ from hf135 rfl))).2 x hx; show S0.tk ≤ x; omega) (w_markTypeS_m q134 f134 ks134 1 _ (Fr.ge (show Fr tkj19 tk131 _ from (show Fr tkj19 tk131 _ from hf135 rfl)) (by omega)) ((show Fr tkj19 tk131 _ from (show Fr tkj19 tk131 _ from hf135 rfl))).1 hg201) (fun out S' hR (hle203 : tk194 ≤ S'.tk) => ?_)
         obtain ⟨ks204, k205, rfl, rfl, _, hst206, hln207, hu208⟩ := hR
         generalize S'.tk = tk202 at hle203 ⊢
         refine ⟨_, rfl, rfl, GF q134 f134 ks134 ks204, GF.turned (Fr.ge (show Fr tkj19 tk131 _ from (show Fr tkj19 tk131 _ from hf135 rfl)) (by omega)) hst206 hln207 hu208, [(0, .imm q1 3 f1 (fcellss ks1)), (3, .optr (.loc 3) 0 0), (4, .bool false), (6, .optr (.loc 6) 0 0), (7, .int .i64 i20), (8, .int .i64 i21), (9, .imm q134 3 f134 (fcellss ks204)), (10, .optr (.loc 10) 0 0), (11, .optr (.loc 11) 0 0), (12, .int .i64 ra155), (13, .int .i64 ra156), (63, .bool (ra156 != i21)), (64, .imm q134 3 f134 (fcellss ks204)), (65, .imm q1 3 f1 (fcellss ks1)), (66, .imm q175 3 f175 (fcellss ks175)), (67, .bool r177), (68, .bool (!r177)), (69, .agg [.int .i64 k141, .int .i64 n141, .imm p141 3 e141 (fcellss fs141), .imm q141 4 f141 (pcellss ks141)]), (70, .agg [.int .i64 k2, .int .i64 n2, .imm p2 3 e2 (fcellss fs2), .imm q2 4 f2 (pcellss ks2)]), (71, .agg [.int .i64 k190, .int .i64 n190, .imm p190 3 e190 (fcellss fs190), .imm q190 4 f190 (pcellss ks190)]), (72, .bool r192), (73, .bool (!r192)), (14, .int .i64 1), (74, .imm q134 3 f134 (fcellss ks204)), (75, .int .i64 1)], [(11, ⟨39, 3, true, [[.int .i64 k148, .int .i64 n148, .imm q148 3 f148 (fcellss ks148)]]⟩), (10, ⟨30, 4, true, [[.int .i64 k141, .int .i64 n141, .imm p141 3 e141 (fcellss fs141), .imm q141 4 f141 (pcellss ks141)]]⟩), (6, ⟨39, 3, true, [[.int .i64 i22, .int .i64 i23, .imm q24 3 f24 (fcellss ks24)]]⟩), (3, ⟨25, 4, true, [[.int .i64 k2, .int .i64 n2, .imm p2 3 e2 (fcellss fs2), .imm q2 4 f2 (pcellss ks2)]]⟩)], (.cons _ _ _ _ rfl (Tn.av (fs_av (old_av ho0))) (.cons _ _ _ _ rfl (.optr _ _ _) (.cons _ _ _ _ rfl (Tn.av (.bool _)) (.cons _ _ _ _ rfl (.optr _ _ _) (.cons _ _ _ _ rfl (Tn.av (.int _ _)) (.cons _ _ _ _ rfl (Tn.av (.int _ _)) (.cons _ _ _ _ rfl (GF.tn hln207) (.cons _ _ _ _ rfl (.optr _ _ _) (.cons _ _ _ _ rfl (.optr _ _ _) (.cons _ _ _ _ rfl (Tn.av (.int _ _)) (.cons _ _ _ _ rfl (Tn.av (.int _ _)) (.cons _ _ _ _ rfl (Tn.av (.bool _)) (.cons _ _ _ _ rfl (GF.tn hln207) (.cons _ _ _ _ rfl (Tn.av (fs_av (old_av ho0))) (.cons _ _ _ _ rfl (Tn.av (fs_av (fr_av (show Fr tk162 tk172 _ from (show Fr tk162 tk172 _ from hf176 rfl)) (show Fr tkj19 tk131 _ from (show Fr tkj19 tk131 _ from hf135 rfl)) (by omega) (by omega)))) (.cons _ _ _ _ rfl (Tn.av (.bool _)) (.cons _ _ _ _ rfl (Tn.av (.bool _)) (.cons _ _ _ _ rfl (TnCs.agg (.cons _ _ _ _ (Tn.av (.int _ _)) (.cons _ _ _ _ (Tn.av (.int _ _)) (.cons _ _ _ _ (Tn.av (fs_av (fun x hx => fr_av (show Fr tk131 tk138 _ from (show Fr tk131 tk138 _ from hf142 rfl)) (show Fr tkj19 tk131 _ from (show Fr tkj19 tk131 _ from hf135 rfl)) (by omega) (by omega) x (List.mem_append.2 (.inl hx))))) (.cons _ _ _ _ (Tn.av (ps_av (fun x hx => fr_av (show Fr tk131 tk138 _ from (show Fr tk131 tk138 _ from hf142 rfl)) (show Fr tkj19 tk131 _ from (show Fr tkj19 tk131 _ from hf135 rfl)) (by omega) (by omega) x (List.mem_append.2 (.inr hx))))) .nil)))) rfl) (.cons _ _ _ _ rfl (TnCs.agg (.cons _ _ _ _ (Tn.av (.int _ _)) (.cons _ _ _ _ (Tn.av (.int _ _)) (.cons _ _ _ _ (Tn.av (fs_av (old_av ho1))) (.cons _ _ _ _ (Tn.av (ps_av (old_av ho2))) .nil)))) rfl) (.cons _ _ _ _ rfl (TnCs.agg (.cons _ _ _ _ (Tn.av (.int _ _)) (.cons _ _ _ _ (Tn.av (.int _ _)) (.cons _ _ _ _ (Tn.av (fs_av (fun x hx => fr_av (show Fr tk179 tk187 _ from (show Fr tk179 tk187 _ from hf191 rfl)) (show Fr tkj19 tk131 _ from (show Fr tkj19 tk131 _ from hf135 rfl)) (by omega) (by omega) x (List.mem_append.2 (.inl hx))))) (.cons _ _ _ _ (Tn.av (ps_av (fun x hx => fr_av (show Fr tk179 tk187 _ from (show Fr tk179 tk187 _ from hf191 rfl)) (show Fr tkj19 tk131 _ from (show Fr tkj19 tk131 _ from hf135 rfl)) (by omega) (by omega) x (List.mem_append.2 (.inr hx))))) .nil)))) rfl) (.cons _ _ _ _ rfl (Tn.av (.bool _)) (.cons _ _ _ _ rfl (Tn.av (.bool _)) (.cons _ _ _ _ rfl (Tn.av (.int _ _)) (.cons _ _ _ _ rfl (GF.tn hln207) (.cons _ _ _ _ rfl (Tn.av (.int _ _)) .nil))))))))))))))))))))))))), (.cons _ _ _ _ _ (TnCs.box (.cons _ _ _ _ (Tn.av (.int _ _)) (.cons _ _ _ _ (Tn.av (.int _ _)) (.cons _ _ _ _ (Tn.av (fs_av (fr_av (show Fr tk138 tk145 _ from (show Fr tk138 tk145 _ from hf149 rfl)) (show Fr tkj19 tk131 _ from (show Fr tkj19 tk131 _ from hf135 rfl)) (by omega) (by omega)))) .nil))) rfl) (.cons _ _ _ _ _ (TnCs.box (.cons _ _ _ _ (Tn.av (.int _ _)) (.cons _ _ _ _ (Tn.av (.int _ _)) (.cons _ _ _ _ (Tn.av (fs_av (fun x hx => fr_av (show Fr tk131 tk138 _ from (show Fr tk131 tk138 _ from hf142 rfl)) (show Fr tkj19 tk131 _ from (show Fr tkj19 tk131 _ from hf135 rfl)) (by omega) (by omega) x (List.mem_append.2 (.inl hx))))) (.cons _ _ _ _ (Tn.av (ps_av (fun x hx => fr_av (show Fr tk131 tk138 _ from (show Fr tk131 tk138 _ from hf142 rfl)) (show Fr tkj19 tk131 _ from (show Fr tkj19 tk131 _ from hf135 rfl)) (by omega) (by omega) x (List.mem_append.2 (.inr hx))))) .nil)))) rfl) (.cons _ _ _ _ _ (TnCs.box (.cons _ _ _ _ (Tn.av (.int _ _)) (.cons _ _ _ _ (Tn.av (.int _ _)) (.cons _ _ _ _ (Tn.av (fs_av (fr_av (show Fr tk13 tkj19 _ from hfr25) (show Fr tkj19 tk131 _ from (show Fr tkj19 tk131 _ from hf135 rfl)) (by omega) (by omega)))) .nil))) rfl) (.cons _ _ _ _ _ (TnCs.box (.cons _ _ _ _ (Tn.av (.int _ _)) (.cons _ _ _ _ (Tn.av (.int _ _)) (.cons _ _ _ _ (Tn.av (fs_av (old_av ho1))) (.cons _ _ _ _ (Tn.av (ps_av (old_av ho2))) .nil)))) rfl) .nil)))), ?_⟩
         refine mvR rfl rfl rfl rfl (ltb rfl) ?_
         refine run_ops_nil ?_
         refine run_sub_code (σ' := ⟨[(0, .imm q1 3 f1 (fcellss ks1)), (3, .optr (.loc 3) 0 0), (4, .bool false), (6, .optr (.loc 6) 0 0), (7, .int .i64 i20), (8, .int .i64 i21), (10, .optr (.loc 10) 0 0), (11, .optr (.loc 11) 0 0), (12, .int .i64 ra155), (13, .int .i64 ra156), (14, .int .i64 k205)], [(11, ⟨39, 3, true, [[.int .i64 k148, .int .i64 n148, .imm q148 3 f148 (fcellss ks148)]]⟩), (10, ⟨30, 4, true, [[.int .i64 k141, .int .i64 n141, .imm p141 3 e141 (fcellss fs141), .imm q141 4 f141 (pcellss ks141)]]⟩), (6, ⟨39, 3, true, [[.int .i64 i22, .int .i64 i23, .imm q24 3 f24 (fcellss ks24)]]⟩), (3, ⟨25, 4, true, [[.int .i64 k2, .int .i64 n2, .imm p2 3 e2 (fcellss fs2), .imm q2 4 f2 (pcellss ks2)]]⟩)], [], O, tk202⟩) (Sub.env [(0, .imm q1 3 f1 (fcellss ks1)), (3, .optr (.loc 3) 0 0), (4, .bool false), (6, .optr (.loc 6) 0 0), (7, .int .i64 i20), (8, .int .i64 i21), (10, .optr (.loc 10) 0 0), (11, .optr (.loc 11) 0 0), (12, .int .i64 ra155), (13, .int .i64 ra156), (14, .int .i64 k205)] ⟨rfl, rfl, rfl, rfl, rfl, rfl, rfl, rfl, rfl, rfl, rfl, trivial⟩) ?_
         refine run_sr ?_
         refine run_ld hG rfl rfl rfl rfl rfl (ltb rfl) ?_
         refine mvL rfl rfl rfl rfl (ltb rfl) ?_
         obtain ⟨r209, hg210, hM⟩ := bind_t hM
         refine run_callT rfl rfl rfl (ltb rfl) rfl rfl rfl rfl rfl hOn (fun x hx => by have := ((show Fr tk131 tk138 _ from (show Fr tk131 tk138 _ from hf142 rfl))).2 x hx; show S0.tk ≤ x; omega) (w_markExpr_m k141 n141 p141 e141 fs141 q141 f141 ks141 k205 _ (Fr.ge (show Fr tk131 tk138 _ from (show Fr tk131 tk138 _ from hf142 rfl)) (by omega)) ((show Fr tk131 tk138 _ from (show Fr tk131 tk138 _ from hf142 rfl))).1 hg210) (fun out S' hR (hle212 : tk202 ≤ S'.tk) => ?_)
         obtain ⟨fs218, ks213, k214, rfl, rfl, _, hst215, hln216, hst219, hln220, hu217, hu221⟩ := hR
         generalize S'.tk = tk211 at hle212 ⊢
         refine ⟨_, rfl, rfl, GQ p141 e141 fs141 fs218 q141 f141 ks141 ks213, GQ.turned (Fr.ge (show Fr tk131 tk138 _ from (show Fr tk131 tk138 _ from hf142 rfl)) (by omega)) hst215 hln216 hst219 hln220 hu217 hu221, [(0, .imm q1 3 f1 (fcellss ks1)), (3, .optr (.loc 3) 0 0), (4, .bool false), (6, .optr (.loc 6) 0 0), (7, .int .i64 i20), (8, .int .i64 i21), (10, .optr (.loc 10) 0 0), (11, .optr (.loc 11) 0 0), (12, .int .i64 ra155), (13, .int .i64 ra156), (14, .int .i64 k205), (77, .agg [.int .i64 k141, .int .i64 n141, .imm p141 3 e141 (fcellss fs218), .imm q141 4 f141 (pcellss ks213)]), (78, .int .i64 k205)], [(11, ⟨39, 3, true, [[.int .i64 k148, .int .i64 n148, .imm q148 3 f148 (fcellss ks148)]]⟩), (10, ⟨30, 4, true, [[.int .i64 k141, .int .i64 n141, .imm p141 3 e141 (fcellss fs218), .imm q141 4 f141 (pcellss ks213)]]⟩), (6, ⟨39, 3, true, [[.int .i64 i22, .int .i64 i23, .imm q24 3 f24 (fcellss ks24)]]⟩), (3, ⟨25, 4, true, [[.int .i64 k2, .int .i64 n2, .imm p2 3 e2 (fcellss fs2), .imm q2 4 f2 (pcellss ks2)]]⟩)], (.cons _ _ _ _ rfl (Tn.av (fs_av (old_av ho0))) (.cons _ _ _ _ rfl (.optr _ _ _) (.cons _ _ _ _ rfl (Tn.av (.bool _)) (.cons _ _ _ _ rfl (.optr _ _ _) (.cons _ _ _ _ rfl (Tn.av (.int _ _)) (.cons _ _ _ _ rfl (Tn.av (.int _ _)) (.cons _ _ _ _ rfl (.optr _ _ _) (.cons _ _ _ _ rfl (.optr _ _ _) (.cons _ _ _ _ rfl (Tn.av (.int _ _)) (.cons _ _ _ _ rfl (Tn.av (.int _ _)) (.cons _ _ _ _ rfl (Tn.av (.int _ _)) (.cons _ _ _ _ rfl (TnCs.agg (.cons _ _ _ _ (Tn.av (.int _ _)) (.cons _ _ _ _ (Tn.av (.int _ _)) (.cons _ _ _ _ (GQ.tnf hln216) (.cons _ _ _ _ (GQ.tnp hln220) .nil)))) rfl) (.cons _ _ _ _ rfl (Tn.av (.int _ _)) .nil))))))))))))), (.cons _ _ _ _ _ (TnCs.box (.cons _ _ _ _ (Tn.av (.int _ _)) (.cons _ _ _ _ (Tn.av (.int _ _)) (.cons _ _ _ _ (Tn.av (fs_av (fr_av (show Fr tk138 tk145 _ from (show Fr tk138 tk145 _ from hf149 rfl)) (show Fr tk131 tk138 _ from (show Fr tk131 tk138 _ from hf142 rfl)) (by omega) (by omega)))) .nil))) rfl) (.cons _ _ _ _ _ (TnCs.box (.cons _ _ _ _ (Tn.av (.int _ _)) (.cons _ _ _ _ (Tn.av (.int _ _)) (.cons _ _ _ _ (GQ.tnf hln216) (.cons _ _ _ _ (GQ.tnp hln220) .nil)))) rfl) (.cons _ _ _ _ _ (TnCs.box (.cons _ _ _ _ (Tn.av (.int _ _)) (.cons _ _ _ _ (Tn.av (.int _ _)) (.cons _ _ _ _ (Tn.av (fs_av (fr_av (show Fr tk13 tkj19 _ from hfr25) (show Fr tk131 tk138 _ from (show Fr tk131 tk138 _ from hf142 rfl)) (by omega) (by omega)))) .nil))) rfl) (.cons _ _ _ _ _ (TnCs.box (.cons _ _ _ _ (Tn.av (.int _ _)) (.cons _ _ _ _ (Tn.av (.int _ _)) (.cons _ _ _ _ (Tn.av (fs_av (old_av ho1))) (.cons _ _ _ _ (Tn.av (ps_av (old_av ho2))) .nil)))) rfl) .nil)))), ?_⟩
         refine mvR rfl rfl rfl rfl (ltb rfl) ?_
         refine run_ops_nil ?_
         refine run_seq ?_
         refine run_sr ?_
         refine mvL rfl rfl rfl rfl (ltb rfl) ?_
         refine run_bin rfl rfl rfl rfl rfl rfl rfl (ltb rfl) ?_
         refine mvL rfl rfl rfl rfl (ltb rfl) ?_
         refine run_splitd (i := 82) rfl (fun hb222 => ?_) (fun hb222 => ?_)
         ·replace hM := ite_t hb222 hM
          refine run_off (on_of rfl rfl rfl rfl) rfl (ltb rfl) ?_
          refine run_off (on_of rfl rfl rfl rfl) rfl (ltb rfl) ?_
          refine run_off (on_of rfl rfl rfl rfl) rfl (ltb rfl) ?_
          refine run_off (on_of rfl rfl rfl rfl) rfl (ltb rfl) ?_
          refine run_pu rfl (pick_step rfl rfl rfl) rfl (ltb rfl) ?_
          refine mvL rfl rfl rfl rfl (ltb rfl) ?_
          refine run_off (on_of rfl rfl rfl rfl) rfl (ltb rfl) ?_
          refine run_off (on_of rfl rfl rfl rfl) rfl (ltb rfl) ?_
          refine run_off (on_of rfl rfl rfl rfl) rfl (ltb rfl) ?_
          refine run_pu rfl (pick_step rfl rfl rfl) rfl (ltb rfl) ?_
          refine mvL rfl rfl rfl rfl (ltb rfl) ?_
          refine run_off (on_of rfl rfl rfl rfl) rfl (ltb rfl) ?_
          refine run_off (on_of rfl rfl rfl rfl) rfl (ltb rfl) ?_
          refine run_off (on_of rfl rfl rfl rfl) rfl (ltb rfl) ?_
          refine run_pu rfl (pick_step rfl rfl rfl) rfl (ltb rfl) ?_
          refine run_ops_nil ?_
          refine run_if rfl rfl (fun _ => ?_) (fun h => by cases h)
          refine run_sr ?_
          refine mvR rfl rfl rfl rfl (ltb rfl) ?_
          refine run_ops_nil ?_
          refine run_ret_to ?_
          obtain rfl := some_t hM
          refine fin_x hG rfl rfl rfl (v' := .bool false) (by rfl) ⟨rfl, (show tk ≤ tk211 by omega), _, rfl, rfl⟩
         ·replace hM := ite_f hb222 hM
          refine run_rdG (on_of rfl rfl rfl rfl) (aload_rd hG rfl rfl rfl (by first | (simp [ldok]; done) | exact List.not_mem_nil | trivial)) rfl (ltb rfl) ?_
          refine run_rdG (on_of rfl rfl rfl rfl) (aload_rd hG rfl rfl rfl (by first | (simp [ldok]; done) | exact List.not_mem_nil | trivial)) rfl (ltb rfl) ?_
          obtain ⟨r223, hg224, hM⟩ := bind_t hM
          refine run_callG (on_of rfl rfl rfl rfl) rfl rfl (ltb rfl) rfl rfl rfl (fun _ h => absurd h List.not_mem_nil) (w_eqType_ok n k148 n148 q148 f148 ks148 i22 i23 q24 f24 ks24 hg224 _ _) (callK_retX (fun v tk225 (hle226 : tk211 ≤ tk225) h227 => ?_))
          subst h227
          refine run_puG (on_of rfl rfl rfl rfl) (aun_step rfl rfl rfl) rfl (ltb rfl) ?_
          refine run_pu rfl (pick_step rfl rfl rfl) rfl (ltb rfl) ?_
          refine mvL rfl rfl rfl rfl (ltb rfl) ?_
          refine run_splitb (i := 88) rfl (fun hb230 => ?_) (fun hb230 => ?_)
          ·replace hM := ite_t hb230 hM
           refine run_off (on_of rfl rfl rfl rfl) rfl (ltb rfl) ?_
           refine run_off (on_of rfl rfl rfl rfl) rfl (ltb rfl) ?_
           refine run_off (on_of rfl rfl rfl rfl) rfl (ltb rfl) ?_
           refine run_pu rfl (pick_step rfl rfl rfl) rfl (ltb rfl) ?_
           refine mvL rfl rfl rfl rfl (ltb rfl) ?_
           refine run_off (on_of rfl rfl rfl rfl) rfl (ltb rfl) ?_
           refine run_off (on_of rfl rfl rfl rfl) rfl (ltb rfl) ?_
           refine run_off (on_of rfl rfl rfl rfl) rfl (ltb rfl) ?_
           refine run_pu rfl (pick_step rfl rfl rfl) rfl (ltb rfl) ?_
           refine run_ops_nil ?_
           refine run_sub_code (σ' := ⟨[(0, .imm q1 3 f1 (fcellss ks1)), (3, .optr (.loc 3) 0 0), (4, .bool false), (6, .optr (.loc 6) 0 0), (7, .int .i64 i20), (8, .int .i64 i21), (11, .optr (.loc 11) 0 0), (97, .bool true)], [(11, ⟨39, 3, true, [[.int .i64 k148, .int .i64 n148, .imm q148 3 f148 (fcellss ks148)]]⟩), (6, ⟨39, 3, true, [[.int .i64 i22, .int .i64 i23, .imm q24 3 f24 (fcellss ks24)]]⟩), (3, ⟨25, 4, true, [[.int .i64 k2, .int .i64 n2, .imm p2 3 e2 (fcellss fs2), .imm q2 4 f2 (pcellss ks2)]]⟩)], [], O, tk225⟩) (Sub.trans (Sub.drop (k := 10) rfl) (Sub.env [(0, .imm q1 3 f1 (fcellss ks1)), (3, .optr (.loc 3) 0 0), (4, .bool false), (6, .optr (.loc 6) 0 0), (7, .int .i64 i20), (8, .int .i64 i21), (11, .optr (.loc 11) 0 0), (97, .bool true)] ⟨rfl, rfl, rfl, rfl, rfl, rfl, rfl, rfl, trivial⟩)) ?_
           refine run_if rfl rfl (fun _ => ?_) (fun h => by cases h)
           refine run_sr ?_
           refine mvR rfl rfl rfl rfl (ltb rfl) ?_
           refine run_ops_nil ?_
           refine run_ret_to ?_
           obtain rfl := some_t hM
           refine fin_x hG rfl rfl rfl (v' := .bool false) (by rfl) ⟨rfl, (show tk ≤ tk225 by omega), _, rfl, rfl⟩
          ·replace hM := ite_f hb230 hM
           refine run_puG (on_of rfl rfl rfl rfl) (move_step (.inl rfl) rfl) rfl (ltb rfl) ?_
           refine run_puG (on_of rfl rfl rfl rfl) (move_step (.inl rfl) rfl) rfl (ltb rfl) ?_
           refine run_puG (on_of rfl rfl rfl rfl) (abin_step rfl rfl rfl rfl (fun _ h => by cases h)) rfl (ltb rfl) ?_
           refine run_pu rfl (pick_step rfl rfl rfl) rfl (ltb rfl) ?_
           refine mvL rfl rfl rfl rfl (ltb rfl) ?_
           refine run_splitb (i := 93) rfl (fun hb231 => ?_) (fun hb231 => ?_)
           ·replace hM := ite_t hb231 hM
            refine run_off (on_of rfl rfl rfl rfl) rfl (ltb rfl) ?_
            refine run_off (on_of rfl rfl rfl rfl) rfl (ltb rfl) ?_
            refine run_off (on_of rfl rfl rfl rfl) rfl (ltb rfl) ?_
            refine run_pu rfl (pick_step rfl rfl rfl) rfl (ltb rfl) ?_
            refine run_ops_nil ?_
            refine run_sub_code (σ' := ⟨[(0, .imm q1 3 f1 (fcellss ks1)), (3, .optr (.loc 3) 0 0), (4, .bool false), (6, .optr (.loc 6) 0 0), (7, .int .i64 i20), (8, .int .i64 i21), (11, .optr (.loc 11) 0 0), (97, .bool true)], [(11, ⟨39, 3, true, [[.int .i64 k148, .int .i64 n148, .imm q148 3 f148 (fcellss ks148)]]⟩), (6, ⟨39, 3, true, [[.int .i64 i22, .int .i64 i23, .imm q24 3 f24 (fcellss ks24)]]⟩), (3, ⟨25, 4, true, [[.int .i64 k2, .int .i64 n2, .imm p2 3 e2 (fcellss fs2), .imm q2 4 f2 (pcellss ks2)]]⟩)], [], O, tk225⟩) (Sub.trans (Sub.drop (k := 10) rfl) (Sub.env [(0, .imm q1 3 f1 (fcellss ks1)), (3, .optr (.loc 3) 0 0), (4, .bool false), (6, .optr (.loc 6) 0 0), (7, .int .i64 i20), (8, .int .i64 i21), (11, .optr (.loc 11) 0 0), (97, .bool true)] ⟨rfl, rfl, rfl, rfl, rfl, rfl, rfl, rfl, trivial⟩)) ?_
            refine run_if rfl rfl (fun _ => ?_) (fun h => by cases h)
            refine run_sr ?_
            refine mvR rfl rfl rfl rfl (ltb rfl) ?_
            refine run_ops_nil ?_
            refine run_ret_to ?_
            obtain rfl := some_t hM
            refine fin_x hG rfl rfl rfl (v' := .bool false) (by rfl) ⟨rfl, (show tk ≤ tk225 by omega), _, rfl, rfl⟩
           ·replace hM := ite_f hb231 hM
            refine run_puG (on_of rfl rfl rfl rfl) (move_step (.inl rfl) rfl) rfl (ltb rfl) ?_
            refine run_puG (on_of rfl rfl rfl rfl) (move_step (.inl rfl) rfl) rfl (ltb rfl) ?_
            refine run_puG (on_of rfl rfl rfl rfl) (abin_step rfl rfl rfl rfl (fun _ h => by cases h)) rfl (ltb rfl) ?_
            refine run_pu rfl (pick_step rfl rfl rfl) rfl (ltb rfl) ?_
            refine run_ops_nil ?_
            refine run_sub_code (σ' := ⟨[(0, .imm q1 3 f1 (fcellss ks1)), (3, .optr (.loc 3) 0 0), (4, .bool false), (6, .optr (.loc 6) 0 0), (7, .int .i64 i20), (8, .int .i64 i21), (11, .optr (.loc 11) 0 0), (97, .bool (ra156 != i21))], [(11, ⟨39, 3, true, [[.int .i64 k148, .int .i64 n148, .imm q148 3 f148 (fcellss ks148)]]⟩), (6, ⟨39, 3, true, [[.int .i64 i22, .int .i64 i23, .imm q24 3 f24 (fcellss ks24)]]⟩), (3, ⟨25, 4, true, [[.int .i64 k2, .int .i64 n2, .imm p2 3 e2 (fcellss fs2), .imm q2 4 f2 (pcellss ks2)]]⟩)], [], O, tk225⟩) (Sub.trans (Sub.drop (k := 10) rfl) (Sub.env [(0, .imm q1 3 f1 (fcellss ks1)), (3, .optr (.loc 3) 0 0), (4, .bool false), (6, .optr (.loc 6) 0 0), (7, .int .i64 i20), (8, .int .i64 i21), (11, .optr (.loc 11) 0 0), (97, .bool (ra156 != i21))] ⟨rfl, rfl, rfl, rfl, rfl, rfl, rfl, rfl, trivial⟩)) ?_
            refine run_ifb rfl rfl (fun hb232 => ?_) (fun hb232 => ?_)
            ·replace hM := ite_t hb232 hM
             refine run_sr ?_
             refine mvR rfl rfl rfl rfl (ltb rfl) ?_
             refine run_ops_nil ?_
             refine run_ret_to ?_
             obtain rfl := some_t hM
             refine fin_x hG rfl rfl rfl (v' := .bool false) (by rfl) ⟨rfl, (show tk ≤ tk225 by omega), _, rfl, rfl⟩
            ·replace hM := ite_f hb232 hM
             refine run_skip ?_
             refine run_sr ?_
             refine mvR rfl rfl rfl rfl (ltb rfl) ?_
             refine run_ops_nil ?_
             refine run_sr ?_
             refine run_ld hG rfl rfl rfl rfl rfl (ltb rfl) ?_
             refine mvL rfl rfl rfl rfl (ltb rfl) ?_
             obtain ⟨r233, hg234, hM⟩ := bind_t hM
             refine run_callT rfl rfl rfl (ltb rfl) rfl rfl rfl rfl rfl hOn (fun x hx => by have := ((show Fr tk138 tk145 _ from (show Fr tk138 tk145 _ from hf149 rfl))).2 x hx; show S0.tk ≤ x; omega) (w_markType_m k148 n148 q148 f148 ks148 1 _ (Fr.ge (show Fr tk138 tk145 _ from (show Fr tk138 tk145 _ from hf149 rfl)) (by omega)) ((show Fr tk138 tk145 _ from (show Fr tk138 tk145 _ from hf149 rfl))).1 hg234) (fun out S' hR (hle236 : tk225 ≤ S'.tk) => ?_)
             obtain ⟨ks237, k238, rfl, rfl, _, hst239, hln240, hu241⟩ := hR
             generalize S'.tk = tk235 at hle236 ⊢
             refine ⟨_, rfl, rfl, GF q148 f148 ks148 ks237, GF.turned (Fr.ge (show Fr tk138 tk145 _ from (show Fr tk138 tk145 _ from hf149 rfl)) (by omega)) hst239 hln240 hu241, [(0, .imm q1 3 f1 (fcellss ks1)), (3, .optr (.loc 3) 0 0), (4, .bool false), (6, .optr (.loc 6) 0 0), (7, .int .i64 i20), (8, .int .i64 i21), (11, .optr (.loc 11) 0 0), (97, .bool (ra156 != i21)), (15, .int .i64 1), (98, .agg [.int .i64 k148, .int .i64 n148, .imm q148 3 f148 (fcellss ks237)]), (99, .int .i64 1)], [(11, ⟨39, 3, true, [[.int .i64 k148, .int .i64 n148, .imm q148 3 f148 (fcellss ks237)]]⟩), (6, ⟨39, 3, true, [[.int .i64 i22, .int .i64 i23, .imm q24 3 f24 (fcellss ks24)]]⟩), (3, ⟨25, 4, true, [[.int .i64 k2, .int .i64 n2, .imm p2 3 e2 (fcellss fs2), .imm q2 4 f2 (pcellss ks2)]]⟩)], (.cons _ _ _ _ rfl (Tn.av (fs_av (old_av ho0))) (.cons _ _ _ _ rfl (.optr _ _ _) (.cons _ _ _ _ rfl (Tn.av (.bool _)) (.cons _ _ _ _ rfl (.optr _ _ _) (.cons _ _ _ _ rfl (Tn.av (.int _ _)) (.cons _ _ _ _ rfl (Tn.av (.int _ _)) (.cons _ _ _ _ rfl (.optr _ _ _) (.cons _ _ _ _ rfl (Tn.av (.bool _)) (.cons _ _ _ _ rfl (Tn.av (.int _ _)) (.cons _ _ _ _ rfl (TnCs.agg (.cons _ _ _ _ (Tn.av (.int _ _)) (.cons _ _ _ _ (Tn.av (.int _ _)) (.cons _ _ _ _ (GF.tn hln240) .nil))) rfl) (.cons _ _ _ _ rfl (Tn.av (.int _ _)) .nil))))))))))), (.cons _ _ _ _ _ (TnCs.box (.cons _ _ _ _ (Tn.av (.int _ _)) (.cons _ _ _ _ (Tn.av (.int _ _)) (.cons _ _ _ _ (GF.tn hln240) .nil))) rfl) (.cons _ _ _ _ _ (TnCs.box (.cons _ _ _ _ (Tn.av (.int _ _)) (.cons _ _ _ _ (Tn.av (.int _ _)) (.cons _ _ _ _ (Tn.av (fs_av (fr_av (show Fr tk13 tkj19 _ from hfr25) (show Fr tk138 tk145 _ from (show Fr tk138 tk145 _ from hf149 rfl)) (by omega) (by omega)))) .nil))) rfl) (.cons _ _ _ _ _ (TnCs.box (.cons _ _ _ _ (Tn.av (.int _ _)) (.cons _ _ _ _ (Tn.av (.int _ _)) (.cons _ _ _ _ (Tn.av (fs_av (old_av ho1))) (.cons _ _ _ _ (Tn.av (ps_av (old_av ho2))) .nil)))) rfl) .nil))), ?_⟩
             refine mvR rfl rfl rfl rfl (ltb rfl) ?_
             refine run_ops_nil ?_
             refine run_sr ?_
             refine mvR rfl rfl rfl rfl (ltb rfl) ?_
             refine run_ops_nil ?_
             refine run_sr ?_
             refine run_ld hG rfl rfl rfl rfl rfl (ltb rfl) ?_
             refine mvL rfl rfl rfl rfl (ltb rfl) ?_
             obtain ⟨r242, hg243, hM⟩ := bind_t hM
             refine run_call rfl rfl rfl (ltb rfl) rfl rfl rfl (fun _ h => absurd h List.not_mem_nil) (w_heldType_ok n k148 n148 q148 f148 ks237 1 hg243 _ _) (callK_retX (fun v tk244 (hle245 : tk235 ≤ tk244) h246 => ?_))
             subst h246
             refine mvR rfl rfl rfl rfl (ltb rfl) ?_
             refine run_ops_nil ?_
             refine run_seq ?_
             refine run_sr ?_
             refine mvL rfl rfl rfl rfl (ltb rfl) ?_
             refine run_bin rfl rfl rfl rfl rfl rfl rfl (ltb rfl) ?_
             refine run_ops_nil ?_
             refine run_ifd rfl rfl (fun hb249 => ?_) (fun hb249 => ?_)
             ·replace hM := ite_t hb249 hM
              refine run_sr ?_
              refine mvR rfl rfl rfl rfl (ltb rfl) ?_
              refine run_ops_nil ?_
              refine run_ret_to ?_
              obtain rfl := some_t hM
              refine fin_x hG rfl rfl rfl (v' := .bool false) (by rfl) ⟨rfl, (show tk ≤ tk244 by omega), _, rfl, rfl⟩
             ·replace hM := ite_f hb249 hM
              refine run_skip ?_
              refine run_seq ?_
              refine run_sr ?_
              refine mvL rfl rfl rfl rfl (ltb rfl) ?_
              refine mvL rfl rfl rfl rfl (ltb rfl) ?_
              refine run_bin rfl rfl rfl rfl rfl rfl rfl (ltb rfl) ?_
              refine run_ops_nil ?_
              refine run_sub_code (σ' := ⟨[(0, .imm q1 3 f1 (fcellss ks1)), (3, .optr (.loc 3) 0 0), (4, .bool false), (6, .optr (.loc 6) 0 0), (7, .int .i64 i20), (8, .int .i64 i21), (11, .optr (.loc 11) 0 0), (15, .int .i64 k238), (16, .int .i64 r242), (108, .bool (r242 != k238))], [(11, ⟨39, 3, true, [[.int .i64 k148, .int .i64 n148, .imm q148 3 f148 (fcellss ks237)]]⟩), (6, ⟨39, 3, true, [[.int .i64 i22, .int .i64 i23, .imm q24 3 f24 (fcellss ks24)]]⟩), (3, ⟨25, 4, true, [[.int .i64 k2, .int .i64 n2, .imm p2 3 e2 (fcellss fs2), .imm q2 4 f2 (pcellss ks2)]]⟩)], [], O, tk244⟩) (Sub.env [(0, .imm q1 3 f1 (fcellss ks1)), (3, .optr (.loc 3) 0 0), (4, .bool false), (6, .optr (.loc 6) 0 0), (7, .int .i64 i20), (8, .int .i64 i21), (11, .optr (.loc 11) 0 0), (15, .int .i64 k238), (16, .int .i64 r242), (108, .bool (r242 != k238))] ⟨rfl, rfl, rfl, rfl, rfl, rfl, rfl, rfl, rfl, rfl, trivial⟩) ?_
              refine run_ifb rfl rfl (fun hb250 => ?_) (fun hb250 => ?_)
              ·replace hM := ite_t hb250 hM
               refine run_sr ?_
               refine mvR rfl rfl rfl rfl (ltb rfl) ?_
               refine run_ops_nil ?_
               refine run_ret_to ?_
               obtain rfl := some_t hM
               refine fin_x hG rfl rfl rfl (v' := .bool false) (by rfl) ⟨rfl, (show tk ≤ tk244 by omega), _, rfl, rfl⟩
              ·replace hM := ite_f hb250 hM
               refine run_skip ?_
               refine run_seq ?_
               obtain ⟨j251, hj381, hM⟩ := jn_t hM
               refine run_cutL [.code _] (fun σ' => ∃ (i252 : Int) (i253 : Int) (i254 : Int) (i255 : Int) (q256 : Nat) (f256 : Bool) (ks256 : List LF) (tkj251 : Nat), tk244 ≤ tkj251 ∧ Fr tk244 tkj251 (fstoks q256 ks256) ∧ j251 i252 i253 i254 i255 (fers ks256) = some r ∧ Sub ⟨Go.Proofs.Try.prog, S0, Go.Proofs.Try.f4.ntmps, [], fun _ => False, []⟩ σ' ⟨[(4, .bool false), (6, .optr (.loc 6) 0 0), (7, .int .i64 i20), (8, .int .i64 i21), (11, .optr (.loc 11) 0 0), (15, .int .i64 k238), (16, .int .i64 r242), (17, .optr (.loc 17) 0 0), (18, .int .i64 i252), (19, .int .i64 i253)], [(17, ⟨39, 3, true, [[.int .i64 i254, .int .i64 i255, .imm q256 3 f256 (fcellss ks256)]]⟩), (11, ⟨39, 3, true, [[.int .i64 k148, .int .i64 n148, .imm q148 3 f148 (fcellss ks237)]]⟩), (6, ⟨39, 3, true, [[.int .i64 i22, .int .i64 i23, .imm q24 3 f24 (fcellss ks24)]]⟩), (3, ⟨25, 4, true, [[.int .i64 k2, .int .i64 n2, .imm p2 3 e2 (fcellss fs2), .imm q2 4 f2 (pcellss ks2)]]⟩)], [], O, tkj251⟩) rfl ?_ ?_
               ·refine run_draw [] (n := 13) mixed rfl (fun _ h => absurd h List.not_mem_nil) ?_
                refine AAny.take (i := 0) rfl (by kernel_rfl) (by kernel_rfl) (by kernel_rfl) rfl rfl (ltb rfl) ((move_step (.inl rfl) rfl).rd _) ?_
                refine AAny.take (i := 2) rfl (by kernel_rfl) (by kernel_rfl) (by kernel_rfl) rfl rfl (ltb rfl) (aload_rd hG rfl rfl rfl (by first | (simp [ldok]; done) | exact List.not_mem_nil | trivial)) ?_
                refine AAny.eachN (rs := [1, 9]) (by kernel_rfl) (fun h => by cases h) (fun i hi => ?_)
                simp only [List.mem_cons, List.not_mem_nil, or_false] at hi
                rcases hi with rfl | rfl
                ·refine AOpN.of ?_
                 obtain ⟨r258, hg259, hM⟩ := bind_t hM
                 refine AOp.call rfl rfl rfl rfl (ltb rfl) rfl rfl rfl (fun _ h => absurd h List.not_mem_nil) (fun _ h => absurd h List.not_mem_nil) (w_toTypeS_ok n q1 f1 ks1 hg259 _ _) (callK_retX (fun v tk260 (hle261 : tk244 ≤ tk260) h262 => ?_))
                 obtain ⟨q263, f263, ks263, rfl, rfl, hf264⟩ := h262
                 refine AAny.eachN (rs := [3, 9]) (by kernel_rfl) (fun h => by cases h) (fun i hi => ?_)
                 simp only [List.mem_cons, List.not_mem_nil, or_false] at hi
                 rcases hi with rfl | rfl
                 ·refine AOpN.of ?_
                  obtain ⟨r265, hg266, hM⟩ := bind_t hM
                  refine AOp.call rfl rfl rfl rfl (ltb rfl) rfl rfl rfl (fun _ h => absurd h List.not_mem_nil) (fun _ h => absurd h List.not_mem_nil) (w_toExpr_ok n k2 n2 p2 e2 fs2 q2 f2 ks2 hg266 _ _) (callK_retX (fun v tk267 (hle268 : tk260 ≤ tk267) h269 => ?_))
                  obtain ⟨k270, n270, p270, e270, fs270, q270, f270, ks270, rfl, rfl, hf271⟩ := h269
                  refine AAny.eachN (rs := [4, 9]) (by kernel_rfl) (fun h => by cases h) (fun i hi => ?_)
                  simp only [List.mem_cons, List.not_mem_nil, or_false] at hi
                  rcases hi with rfl | rfl
                  ·refine AOpN.of ?_
                   obtain ⟨r272, hg273, hM⟩ := bind_t hM
                   refine AOp.call rfl rfl rfl rfl (ltb rfl) rfl rfl rfl (fun _ h => absurd h List.not_mem_nil) (fun _ h => absurd h List.not_mem_nil) (i_TypeOf_ok n q263 f263 ks263 k270 n270 p270 e270 fs270 q270 f270 ks270 hg273 _ _) (callK_retX (fun v tk274 (hle275 : tk267 ≤ tk274) h276 => ?_))
                   obtain ⟨ra283, ra284, ra285, va286, va287, va288, rfl, rfl, ⟨k277, n277, q277, f277, ks277, rfl, rfl, hf278⟩, rfl, rfl⟩ := h276
                   refine AAny.take (i := 5) rfl (by kernel_rfl) (by kernel_rfl) (by kernel_rfl) rfl rfl (ltb rfl) ((move_step (.inl rfl) rfl).rd _) ?_
                   refine AAny.take (i := 6) rfl (by kernel_rfl) (by kernel_rfl) (by kernel_rfl) rfl rfl (ltb rfl) ((extract_step rfl rfl rfl).rd _) ?_
                   refine AAny.take (i := 7) rfl (by kernel_rfl) (by kernel_rfl) (by kernel_rfl) rfl rfl (ltb rfl) ((extract_step rfl rfl rfl).rd _) ?_
                   refine AAny.take (i := 8) rfl (by kernel_rfl) (by kernel_rfl) (by kernel_rfl) rfl rfl (ltb rfl) ((extract_step rfl rfl rfl).rd _) ?_
                   refine AAny.eachN (rs := [9]) (by kernel_rfl) (fun h => by cases h) (fun i hi => ?_)
                   simp only [List.mem_cons, List.not_mem_nil, or_false] at hi
                   subst hi
                   ·refine AOpN.alloc hG rfl rfl rfl (ltb rfl) rfl rfl rfl ?_
                    refine AAny.one (i := 10) (by kernel_rfl) (AOp.step0 rfl rfl rfl (store_step hG rfl rfl rfl rfl rfl rfl rfl rfl) (by intro x hx; simp only [stW, List.mem_cons, List.not_mem_nil, or_false] at hx; subst hx; simp) ?_)
                    refine AAny.take (i := 11) rfl (by kernel_rfl) (by kernel_rfl) (by kernel_rfl) rfl rfl (ltb rfl) ((move_step (.inr rfl) rfl).rd _) ?_
                    refine AAny.take (i := 12) rfl (by kernel_rfl) (by kernel_rfl) (by kernel_rfl) rfl rfl (ltb rfl) ((move_step (.inr rfl) rfl).rd _) ?_
                    refine AAny.done (by kernel_rfl) ?_
                    exact ⟨ra284, ra285, k277, n277, q277, f277, ks277, tk274, (show tk244 ≤ tk274 by omega), (show Fr tk244 tk274 _ from ((show Fr tk267 tk274 _ from hf278 rfl)).mono (by omega) (by omega)), hM, Sub.env [(4, .bool false), (6, .optr (.loc 6) 0 0), (7, .int .i64 i20), (8, .int .i64 i21), (11, .optr (.loc 11) 0 0), (15, .int .i64 k238), (16, .int .i64 r242), (17, .optr (.loc 17) 0 0), (18, .int .i64 ra284), (19, .int .i64 ra285)] ⟨rfl, rfl, rfl, rfl, rfl, rfl, rfl, rfl, rfl, rfl, trivial⟩⟩
                  ·refine AOpN.alloc hG rfl rfl rfl (ltb rfl) rfl rfl rfl ?_
                   obtain ⟨r289, hg290, hM⟩ := bind_t hM
                   refine AAny.one (i := 4) (by kernel_rfl) (AOp.call rfl rfl rfl rfl (ltb rfl) rfl rfl rfl (fun _ h => absurd h List.not_mem_nil) (fun _ h => absurd h List.not_mem_nil) (i_TypeOf_ok n q263 f263 ks263 k270 n270 p270 e270 fs270 q270 f270 ks270 hg290 _ _) (callK_retX (fun v tk291 (hle292 : tk267 ≤ tk291) h293 => ?_)))
                   obtain ⟨ra300, ra301, ra302, va303, va304, va305, rfl, rfl, ⟨k294, n294, q294, f294, ks294, rfl, rfl, hf295⟩, rfl, rfl⟩ := h293
                   refine AAny.take (i := 5) rfl (by kernel_rfl) (by kernel_rfl) (by kernel_rfl) rfl rfl (ltb rfl) ((move_step (.inl rfl) rfl).rd _) ?_
                   refine AAny.take (i := 6) rfl (by kernel_rfl) (by kernel_rfl) (by kernel_rfl) rfl rfl (ltb rfl) ((extract_step rfl rfl rfl).rd _) ?_
                   refine AAny.take (i := 7) rfl (by kernel_rfl) (by kernel_rfl) (by kernel_rfl) rfl rfl (ltb rfl) ((extract_step rfl rfl rfl).rd _) ?_
                   refine AAny.take (i := 8) rfl (by kernel_rfl) (by kernel_rfl) (by kernel_rfl) rfl rfl (ltb rfl) ((extract_step rfl rfl rfl).rd _) ?_
                   refine AAny.one (i := 10) (by kernel_rfl) (AOp.step0 rfl rfl rfl (store_step hG rfl rfl rfl rfl rfl rfl rfl rfl) (by intro x hx; simp only [stW, List.mem_cons, List.not_mem_nil, or_false] at hx; subst hx; simp) ?_)
                   refine AAny.take (i := 11) rfl (by kernel_rfl) (by kernel_rfl) (by kernel_rfl) rfl rfl (ltb rfl) ((move_step (.inr rfl) rfl).rd _) ?_
                   refine AAny.take (i := 12) rfl (by kernel_rfl) (by kernel_rfl) (by kernel_rfl) rfl rfl (ltb rfl) ((move_step (.inr rfl) rfl).rd _) ?_
                   refine AAny.done (by kernel_rfl) ?_
                   exact ⟨ra301, ra302, k294, n294, q294, f294, ks294, tk291, (show tk244 ≤ tk291 by omega), (show Fr tk244 tk291 _ from ((show Fr tk267 tk291 _ from hf295 rfl)).mono (by omega) (by omega)), hM, Sub.env [(4, .bool false), (6, .optr (.loc 6) 0 0), (7, .int .i64 i20), (8, .int .i64 i21), (11, .optr (.loc 11) 0 0), (15, .int .i64 k238), (16, .int .i64 r242), (17, .optr (.loc 17) 0 0), (18, .int .i64 ra301), (19, .int .i64 ra302)] ⟨rfl, rfl, rfl, rfl, rfl, rfl, rfl, rfl, rfl, rfl, trivial⟩⟩
                 ·refine AOpN.alloc hG rfl rfl rfl (ltb rfl) rfl rfl rfl ?_
                  obtain ⟨r306, hg307, hM⟩ := bind_t hM
                  refine AAny.one (i := 3) (by kernel_rfl) (AOp.call rfl rfl rfl rfl (ltb rfl) rfl rfl rfl (fun _ h => absurd h List.not_mem_nil) (fun _ h => absurd h List.not_mem_nil) (w_toExpr_ok n k2 n2 p2 e2 fs2 q2 f2 ks2 hg307 _ _) (callK_retX (fun v tk308 (hle309 : tk260 ≤ tk308) h310 => ?_)))
                  obtain ⟨k311, n311, p311, e311, fs311, q311, f311, ks311, rfl, rfl, hf312⟩ := h310
                  obtain ⟨r313, hg314, hM⟩ := bind_t hM
                  refine AAny.one (i := 4) (by kernel_rfl) (AOp.call rfl rfl rfl rfl (ltb rfl) rfl rfl rfl (fun _ h => absurd h List.not_mem_nil) (fun _ h => absurd h List.not_mem_nil) (i_TypeOf_ok n q263 f263 ks263 k311 n311 p311 e311 fs311 q311 f311 ks311 hg314 _ _) (callK_retX (fun v tk315 (hle316 : tk308 ≤ tk315) h317 => ?_)))
                  obtain ⟨ra324, ra325, ra326, va327, va328, va329, rfl, rfl, ⟨k318, n318, q318, f318, ks318, rfl, rfl, hf319⟩, rfl, rfl⟩ := h317
                  refine AAny.take (i := 5) rfl (by kernel_rfl) (by kernel_rfl) (by kernel_rfl) rfl rfl (ltb rfl) ((move_step (.inl rfl) rfl).rd _) ?_
                  refine AAny.take (i := 6) rfl (by kernel_rfl) (by kernel_rfl) (by kernel_rfl) rfl rfl (ltb rfl) ((extract_step rfl rfl rfl).rd _) ?_
                  refine AAny.take (i := 7) rfl (by kernel_rfl) (by kernel_rfl) (by kernel_rfl) rfl rfl (ltb rfl) ((extract_step rfl rfl rfl).rd _) ?_
                  refine AAny.take (i := 8) rfl (by kernel_rfl) (by kernel_rfl) (by kernel_rfl) rfl rfl (ltb rfl) ((extract_step rfl rfl rfl).rd _) ?_
                  refine AAny.one (i := 10) (by kernel_rfl) (AOp.step0 rfl rfl rfl (store_step hG rfl rfl rfl rfl rfl rfl rfl rfl) (by intro x hx; simp only [stW, List.mem_cons, List.not_mem_nil, or_false] at hx; subst hx; simp) ?_)
                  refine AAny.take (i := 11) rfl (by kernel_rfl) (by kernel_rfl) (by kernel_rfl) rfl rfl (ltb rfl) ((move_step (.inr rfl) rfl).rd _) ?_
                  refine AAny.take (i := 12) rfl (by kernel_rfl) (by kernel_rfl) (by kernel_rfl) rfl rfl (ltb rfl) ((move_step (.inr rfl) rfl).rd _) ?_
                  refine AAny.done (by kernel_rfl) ?_
                  exact ⟨ra325, ra326, k318, n318, q318, f318, ks318, tk315, (show tk244 ≤ tk315 by omega), (show Fr tk244 tk315 _ from ((show Fr tk308 tk315 _ from hf319 rfl)).mono (by omega) (by omega)), hM, Sub.env [(4, .bool false), (6, .optr (.loc 6) 0 0), (7, .int .i64 i20), (8, .int .i64 i21), (11, .optr (.loc 11) 0 0), (15, .int .i64 k238), (16, .int .i64 r242), (17, .optr (.loc 17) 0 0), (18, .int .i64 ra325), (19, .int .i64 ra326)] ⟨rfl, rfl, rfl, rfl, rfl, rfl, rfl, rfl, rfl, rfl, trivial⟩⟩
                ·refine AOpN.alloc hG rfl rfl rfl (ltb rfl) rfl rfl rfl ?_
                 obtain ⟨r330, hg331, hM⟩ := bind_t hM
                 refine AAny.one (i := 1) (by kernel_rfl) (AOp.call rfl rfl rfl rfl (ltb rfl) rfl rfl rfl (fun _ h => absurd h List.not_mem_nil) (fun _ h => absurd h List.not_mem_nil) (w_toTypeS_ok n q1 f1 ks1 hg331 _ _) (callK_retX (fun v tk332 (hle333 : tk244 ≤ tk332) h334 => ?_)))
                 obtain ⟨q335, f335, ks335, rfl, rfl, hf336⟩ := h334
                 obtain ⟨r337, hg338, hM⟩ := bind_t hM
                 refine AAny.one (i := 3) (by kernel_rfl) (AOp.call rfl rfl rfl rfl (ltb rfl) rfl rfl rfl (fun _ h => absurd h List.not_mem_nil) (fun _ h => absurd h List.not_mem_nil) (w_toExpr_ok n k2 n2 p2 e2 fs2 q2 f2 ks2 hg338 _ _) (callK_retX (fun v tk339 (hle340 : tk332 ≤ tk339) h341 => ?_)))
                 obtain ⟨k342, n342, p342, e342, fs342, q342, f342, ks342, rfl, rfl, hf343⟩ := h341
                 obtain ⟨r344, hg345, hM⟩ := bind_t hM
                 refine AAny.one (i := 4) (by kernel_rfl) (AOp.call rfl rfl rfl rfl (ltb rfl) rfl rfl rfl (fun _ h => absurd h List.not_mem_nil) (fun _ h => absurd h List.not_mem_nil) (i_TypeOf_ok n q335 f335 ks335 k342 n342 p342 e342 fs342 q342 f342 ks342 hg345 _ _) (callK_retX (fun v tk346 (hle347 : tk339 ≤ tk346) h348 => ?_)))
                 obtain ⟨ra355, ra356, ra357, va358, va359, va360, rfl, rfl, ⟨k349, n349, q349, f349, ks349, rfl, rfl, hf350⟩, rfl, rfl⟩ := h348
                 refine AAny.take (i := 5) rfl (by kernel_rfl) (by kernel_rfl) (by kernel_rfl) rfl rfl (ltb rfl) ((move_step (.inl rfl) rfl).rd _) ?_
                 refine AAny.take (i := 6) rfl (by kernel_rfl) (by kernel_rfl) (by kernel_rfl) rfl rfl (ltb rfl) ((extract_step rfl rfl rfl).rd _) ?_
                 refine AAny.take (i := 7) rfl (by kernel_rfl) (by kernel_rfl) (by kernel_rfl) rfl rfl (ltb rfl) ((extract_step rfl rfl rfl).rd _) ?_
                 refine AAny.take (i := 8) rfl (by kernel_rfl) (by kernel_rfl) (by kernel_rfl) rfl rfl (ltb rfl) ((extract_step rfl rfl rfl).rd _) ?_
                 refine AAny.one (i := 10) (by kernel_rfl) (AOp.step0 rfl rfl rfl (store_step hG rfl rfl rfl rfl rfl rfl rfl rfl) (by intro x hx; simp only [stW, List.mem_cons, List.not_mem_nil, or_false] at hx; subst hx; simp) ?_)
                 refine AAny.take (i := 11) rfl (by kernel_rfl) (by kernel_rfl) (by kernel_rfl) rfl rfl (ltb rfl) ((move_step (.inr rfl) rfl).rd _) ?_
                 refine AAny.take (i := 12) rfl (by kernel_rfl) (by kernel_rfl) (by kernel_rfl) rfl rfl (ltb rfl) ((move_step (.inr rfl) rfl).rd _) ?_
                 refine AAny.done (by kernel_rfl) ?_
                 exact ⟨ra356, ra357, k349, n349, q349, f349, ks349, tk346, (show tk244 ≤ tk346 by omega), (show Fr tk244 tk346 _ from ((show Fr tk339 tk346 _ from hf350 rfl)).mono (by omega) (by omega)), hM, Sub.env [(4, .bool false), (6, .optr (.loc 6) 0 0), (7, .int .i64 i20), (8, .int .i64 i21), (11, .optr (.loc 11) 0 0), (15, .int .i64 k238), (16, .int .i64 r242), (17, .optr (.loc 17) 0 0), (18, .int .i64 ra356), (19, .int .i64 ra357)] ⟨rfl, rfl, rfl, rfl, rfl, rfl, rfl, rfl, rfl, rfl, trivial⟩⟩
               ·clear hM
                rintro σ' ⟨i252, i253, i254, i255, q256, f256, ks256, tkj251, hle380, hfr257, hM, hsub⟩
                rw [hj381] at hM
                clear hj381
                refine run_sub_code hsub ?_
                refine run_seq ?_
                refine run_sr ?_
                refine run_ld hG rfl rfl rfl rfl rfl (ltb rfl) ?_
                refine run_ld hG rfl rfl rfl rfl rfl (ltb rfl) ?_
                obtain ⟨r361, hg362, hM⟩ := bind_t hM
                refine run_call rfl rfl rfl (ltb rfl) rfl rfl rfl (fun _ h => absurd h List.not_mem_nil) (w_eqType_ok n i254 i255 q256 f256 ks256 i22 i23 q24 f24 ks24 hg362 _ _) (callK_retX (fun v tk363 (hle364 : tkj251 ≤ tk363) h365 => ?_))
                subst h365
                refine run_pu rfl (aun_step rfl rfl rfl) rfl (ltb rfl) ?_
                refine mvL rfl rfl rfl rfl (ltb rfl) ?_
                refine run_splitb (i := 122) rfl (fun hb368 => ?_) (fun hb368 => ?_)
                ·replace hM := ite_t hb368 hM
                 refine run_off (on_of rfl rfl rfl rfl) rfl (ltb rfl) ?_
                 refine run_off (on_of rfl rfl rfl rfl) rfl (ltb rfl) ?_
                 refine run_off (on_of rfl rfl rfl rfl) rfl (ltb rfl) ?_
                 refine run_pu rfl (pick_step rfl rfl rfl) rfl (ltb rfl) ?_
                 refine mvL rfl rfl rfl rfl (ltb rfl) ?_
                 refine run_off (on_of rfl rfl rfl rfl) rfl (ltb rfl) ?_
                 refine run_off (on_of rfl rfl rfl rfl) rfl (ltb rfl) ?_
                 refine run_off (on_of rfl rfl rfl rfl) rfl (ltb rfl) ?_
                 refine run_pu rfl (pick_step rfl rfl rfl) rfl (ltb rfl) ?_
                 refine run_ops_nil ?_
                 refine run_if rfl rfl (fun _ => ?_) (fun h => by cases h)
                 refine run_sr ?_
                 refine mvR rfl rfl rfl rfl (ltb rfl) ?_
                 refine run_ops_nil ?_
                 refine run_ret_to ?_
                 obtain rfl := some_t hM
                 refine fin_x hG rfl rfl rfl (v' := .bool false) (by rfl) ⟨rfl, (show tk ≤ tk363 by omega), _, rfl, rfl⟩
                ·replace hM := ite_f hb368 hM
                 refine run_puG (on_of rfl rfl rfl rfl) (move_step (.inl rfl) rfl) rfl (ltb rfl) ?_
                 refine run_puG (on_of rfl rfl rfl rfl) (move_step (.inl rfl) rfl) rfl (ltb rfl) ?_
                 refine run_puG (on_of rfl rfl rfl rfl) (abin_step rfl rfl rfl rfl (fun _ h => by cases h)) rfl (ltb rfl) ?_
                 refine run_pu rfl (pick_step rfl rfl rfl) rfl (ltb rfl) ?_
                 refine mvL rfl rfl rfl rfl (ltb rfl) ?_
                 refine run_splitb (i := 127) rfl (fun hb369 => ?_) (fun hb369 => ?_)
                 ·replace hM := ite_t hb369 hM
                  refine run_off (on_of rfl rfl rfl rfl) rfl (ltb rfl) ?_
                  refine run_off (on_of rfl rfl rfl rfl) rfl (ltb rfl) ?_
                  refine run_off (on_of rfl rfl rfl rfl) rfl (ltb rfl) ?_
                  refine run_pu rfl (pick_step rfl rfl rfl) rfl (ltb rfl) ?_
                  refine run_ops_nil ?_
                  refine run_if rfl rfl (fun _ => ?_) (fun h => by cases h)
                  refine run_sr ?_
                  refine mvR rfl rfl rfl rfl (ltb rfl) ?_
                  refine run_ops_nil ?_
                  refine run_ret_to ?_
                  obtain rfl := some_t hM
                  refine fin_x hG rfl rfl rfl (v' := .bool false) (by rfl) ⟨rfl, (show tk ≤ tk363 by omega), _, rfl, rfl⟩
                 ·replace hM := ite_f hb369 hM
                  refine run_puG (on_of rfl rfl rfl rfl) (move_step (.inl rfl) rfl) rfl (ltb rfl) ?_
                  refine run_puG (on_of rfl rfl rfl rfl) (move_step (.inl rfl) rfl) rfl (ltb rfl) ?_
                  refine run_puG (on_of rfl rfl rfl rfl) (abin_step rfl rfl rfl rfl (fun _ h => by cases h)) rfl (ltb rfl) ?_
                  refine run_pu rfl (pick_step rfl rfl rfl) rfl (ltb rfl) ?_
                  refine run_ops_nil ?_
                  refine run_sub_code (σ' := ⟨[(4, .bool false), (11, .optr (.loc 11) 0 0), (15, .int .i64 k238), (16, .int .i64 r242), (131, .bool (i253 != i21))], [(11, ⟨39, 3, true, [[.int .i64 k148, .int .i64 n148, .imm q148 3 f148 (fcellss ks237)]]⟩)], [], O, tk363⟩) (Sub.trans (Sub.drop (k := 17) rfl) (Sub.trans (Sub.drop (k := 6) rfl) (Sub.trans (Sub.drop (k := 3) rfl) (Sub.env [(4, .bool false), (11, .optr (.loc 11) 0 0), (15, .int .i64 k238), (16, .int .i64 r242), (131, .bool (i253 != i21))] ⟨rfl, rfl, rfl, rfl, rfl, trivial⟩)))) ?_
                  refine run_ifb rfl rfl (fun hb370 => ?_) (fun hb370 => ?_)
                  ·replace hM := ite_t hb370 hM
                   refine run_sr ?_
                   refine mvR rfl rfl rfl rfl (ltb rfl) ?_
                   refine run_ops_nil ?_
                   refine run_ret_to ?_
                   obtain rfl := some_t hM
                   refine fin_x hG rfl rfl rfl (v' := .bool false) (by rfl) ⟨rfl, (show tk ≤ tk363 by omega), _, rfl, rfl⟩
                  ·replace hM := ite_f hb370 hM
                   refine run_skip ?_
                   refine run_sr ?_
                   refine mvR rfl rfl rfl rfl (ltb rfl) ?_
                   refine run_ops_nil ?_
                   refine run_sr ?_
                   refine run_ld hG rfl rfl rfl rfl rfl (ltb rfl) ?_
                   refine mvL rfl rfl rfl rfl (ltb rfl) ?_
                   obtain ⟨r371, hg372, hM⟩ := bind_t hM
                   refine run_call rfl rfl rfl (ltb rfl) rfl rfl rfl (fun _ h => absurd h List.not_mem_nil) (w_heldType_ok n k148 n148 q148 f148 ks237 1 hg372 _ _) (callK_retX (fun v tk373 (hle374 : tk363 ≤ tk373) h375 => ?_))
                   subst h375
                   refine mvR rfl rfl rfl rfl (ltb rfl) ?_
                   refine run_ops_nil ?_
                   refine run_seq ?_
                   refine run_sr ?_
                   refine mvL rfl rfl rfl rfl (ltb rfl) ?_
                   refine run_bin rfl rfl rfl rfl rfl rfl rfl (ltb rfl) ?_
                   refine run_ops_nil ?_
                   refine run_ifd rfl rfl (fun hb378 => ?_) (fun hb378 => ?_)
                   ·replace hM := ite_t hb378 hM
                    refine run_sr ?_
                    refine mvR rfl rfl rfl rfl (ltb rfl) ?_
                    refine run_ops_nil ?_
                    refine run_ret_to ?_
                    obtain rfl := some_t hM
                    refine fin_x hG rfl rfl rfl (v' := .bool false) (by rfl) ⟨rfl, (show tk ≤ tk373 by omega), _, rfl, rfl⟩
                   ·replace hM := ite_f hb378 hM
                    refine run_skip ?_
                    refine run_seq ?_
                    refine run_sr ?_
                    refine mvL rfl rfl rfl rfl (ltb rfl) ?_
                    refine mvL rfl rfl rfl rfl (ltb rfl) ?_
                    refine run_bin rfl rfl rfl rfl rfl rfl rfl (ltb rfl) ?_
                    refine run_ops_nil ?_
                    refine run_ifb rfl rfl (fun hb379 => ?_) (fun hb379 => ?_)
                    ·replace hM := ite_t hb379 hM
                     refine run_sr ?_
                     refine mvR rfl rfl rfl rfl (ltb rfl) ?_
                     refine run_ops_nil ?_
                     refine run_ret_to ?_
                     obtain rfl := some_t hM
                     refine fin_x hG rfl rfl rfl (v' := .bool false) (by rfl) ⟨rfl, (show tk ≤ tk373 by omega), _, rfl, rfl⟩
                    ·replace hM := ite_f hb379 hM
                     refine run_skip ?_
                     refine run_sr ?_
                     refine mvR rfl rfl rfl rfl (ltb rfl) ?_
                     refine run_ops_nil ?_
                     refine run_ret_to ?_
                     obtain rfl := some_t hM
                     refine fin_x hG rfl rfl rfl (v' := .bool true) (by rfl) ⟨rfl, (show tk ≤ tk373 by omega), _, rfl, rfl⟩

end Go.Am.Ytfjmdfipnmmboaa
