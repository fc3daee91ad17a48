/- Printed by a program of ours: Lean functions that do what the Go functions do, and the contracts. -/
import Derived.Test.YtaedacibojpfkaaMi1
import Derived.Test.YtaedacibojpfkaaTypes
import Derived.Test.YtaedacibojpfkaaMz
-- packed
namespace Go.Am.Ytaedacibojpfkaa
open Go Go.Am

def w_markText_L1 : Nat → Int → ByteArray → Option ByteArray
 | 0, _, _ => none
 | m + 1, i3, t4 =>
  if i3 > 0 then
   chk ((bytesOf [(IntKind.u8.wrap (IntKind.i64.wrap (48 + (Int.tmod i3 10))))]).size + t4.size ≤ 9223372036854775807) <|
   w_markText_L1 m (IntKind.i64.wrap (Int.tdiv i3 10)) ((bytesOf [(IntKind.u8.wrap (IntKind.i64.wrap (48 + (Int.tmod i3 10))))]) ++ t4)
  else
   chk ((⟨#[109]⟩ : ByteArray).size + t4.size ≤ 9223372036854775807) <|
   some ((⟨#[109]⟩ : ByteArray) ++ t4)

def w_markText (n : Nat) (i1 : Int) : Option ByteArray :=
 if i1 ≤ 0 then
  some (⟨#[109, 48]⟩)
 else
  w_markText_L1 n i1 (⟨#[]⟩)

set_option maxRecDepth 100000 in
theorem w_markText_ok (n : Nat) : ∀ (i1 : Int) {r : ByteArray}, w_markText n i1 = some r → ∀ (O : Heap) (tk : Nat), ACalls Go.Proofs.Try.prog 179 [.int .i64 i1] O tk (RetX O tk (fun v tk' => v = .str r)) := by
 intro i1 r hM O tk
 unfold w_markText at hM
 refine acalls_of_run Go.Proofs.Try.func179 rfl rfl [] [] (Bor.nil _) [(0, .int .i64 i1)] (.cons (entS rfl) (.nil _)) (leb rfl) (fun _ h => by cases h) (fun S0 hO htk hfz => ?_)
 refine run_sr ?_
 refine yR rfl ?_
 refine run_ops_nil ?_
 refine run_seq ?_
 refine run_sr ?_
 refine yL rfl ?_
 refine yB rfl ?_
 refine run_ops_nil ?_
 refine run_ifd rfl rfl (fun hb2 => ?_) (fun hb2 => ?_)
 ·replace hM := ite_t hb2 hM
  refine run_sr ?_
  refine yR rfl ?_
  refine run_ops_nil ?_
  refine run_ret_to ?_
  obtain rfl := some_t hM
  refine fin_x hG rfl rfl rfl (v' := .str ⟨#[109, 48]⟩) (by rfl) ⟨rfl, (show tk ≤ tk by omega), _, rfl, rfl⟩
 replace hM := ite_f hb2 hM
 refine run_skip ?_
 refine run_sr ?_
 refine yR rfl ?_
 refine run_ops_nil ?_
 refine run_seq ?_
 refine run_block ?_
 refine run_rounds (fun m σ => ∃ (i3 : Int) (t4 : ByteArray) (tkw_markText_L1 : Nat), tk ≤ tkw_markText_L1 ∧ w_markText_L1 m i3 t4 = some r ∧ σ = ⟨[(0, .int .i64 i3), (2, .str ⟨#[]⟩), (3, .str t4)], [], [], O, tkw_markText_L1⟩) n (Sub.pk [0, 2, 3] rfl) ⟨i1, ⟨#[]⟩, tk, Nat.le_refl _, hM, rfl⟩ (fun m σ hI => ?_)
 clear hM
 obtain ⟨i3, t4, tkw_markText_L1, hle8, hM, rfl⟩ := hI
 obtain _ | m := m
 ·exact absurd hM (by rw [w_markText_L1]; exact fun h => by cases h)
 rw [w_markText_L1] at hM
 refine run_seq ?_
 refine run_sr ?_
 refine yL rfl ?_
 refine yB rfl ?_
 refine run_ops_nil ?_
 refine run_ifd rfl rfl (fun hb5 => ?_) (fun hb5 => ?_)
 ·replace hM := ite_t hb5 hM
  refine run_skip ?_
  refine run_block ?_
  refine run_sr ?_
  refine yL rfl ?_
  refine yB rfl ?_
  refine yB rfl ?_
  refine run_pu rfl (convInt_step hG rfl rfl rfl rfl rfl) rfl (ltb rfl) ?_
  refine run_op rfl (buildSlice_step (d := 12) hG rfl rfl rfl rfl rfl (by rfl) (by rfl) (by rfl) (by decide)) rfl (ltb rfl) ?_
  refine run_rd rfl (bytesStr_rd hG rfl rfl rfl (xs := [(IntKind.u8.wrap (IntKind.i64.wrap (48 + (Int.tmod i3 10))))]) rfl (by simp) rfl rfl rfl rfl rfl rfl) rfl (ltb rfl) ?_
  refine yL rfl ?_
  obtain ⟨hc6, hM⟩ := chk_t hM
  refine run_pu rfl (strAdd_step rfl rfl rfl hc6) rfl (ltb rfl) ?_
  refine yR rfl ?_
  refine run_ops_nil ?_
  refine run_region ?_
  refine yL rfl ?_
  refine yB rfl ?_
  refine yR rfl ?_
  refine run_ops_nil ?_
  refine run_blk ?_
  exact run_loop_end ⟨m, _, Nat.lt_succ_self _, ⟨(IntKind.i64.wrap (Int.tdiv i3 10)), ((bytesOf [(IntKind.u8.wrap (IntKind.i64.wrap (48 + (Int.tmod i3 10))))]) ++ t4), tkw_markText_L1, (show tk ≤ tkw_markText_L1 by omega), hM, rfl⟩, Sub.trans (Sub.drop (k := 12) rfl) (Sub.pk [0, 2, 3] rfl)⟩
 replace hM := ite_f hb5 hM
 refine run_exit_to rfl ?_
 refine run_sr ?_
 refine yL rfl ?_
 obtain ⟨hc7, hM⟩ := chk_t hM
 refine run_pu rfl (strAdd_step rfl rfl rfl hc7) rfl (ltb rfl) ?_
 refine yR rfl ?_
 refine run_ops_nil ?_
 refine run_ret_to ?_
 obtain rfl := some_t hM
 refine fin_x hG rfl rfl rfl (v' := .str ((⟨#[109]⟩ : ByteArray) ++ t4)) (by rfl) ⟨rfl, (show tk ≤ tkw_markText_L1 by omega), _, rfl, rfl⟩

def w_heldTreeS_L1 (rec_w_heldTreeS : List T → Int → Option Int) (n : Nat) (l1 : List T) : Nat → Int → Int → Option Int
 | 0, _, _ => none
 | m + 1, i3, i4 =>
  if i4 < ((l1).length : Int) then
   (idx l1 i4).bind fun y6 =>
   if (y6.kind != i3) = true then
    some (-1)
   else
    (idx l1 i4).bind fun y12 =>
    if (y12.n != (IntKind.i64.wrap (i3 + 1))) = true then
     some (-1)
    else
     (idx l1 i4).bind fun y18 =>
     (w_markText n (IntKind.i64.wrap ((IntKind.i64.wrap (i3 + 1)) + 1))).bind fun r23 =>
     if (!(y18.name.toList == r23.toList)) = true then
      some (-1)
     else
      (idx l1 i4).bind fun y31 =>
      (rec_w_heldTreeS y31.kids (IntKind.i64.wrap ((IntKind.i64.wrap ((IntKind.i64.wrap (i3 + 1)) + 1)) + 1))).bind fun r36 =>
      if r36 < 0 then
       some (-1)
      else
       w_heldTreeS_L1 rec_w_heldTreeS n l1 m r36 (IntKind.i64.wrap (i4 + 1))
  else
   some i3

def w_heldTreeS : Nat → List T → Int → Option Int
 | 0, _, _ => none
 | n + 1, l1, i2 =>
  w_heldTreeS_L1 (w_heldTreeS n) n l1 n i2 0

set_option maxHeartbeats 20000000 in
set_option maxRecDepth 100000 in
theorem w_heldTreeS_st (n : Nat) (ih_w_heldTreeS : ∀ (q1 : Nat) (f1 : Bool) (ks1 : List LT) (i2 : Int) {r : Int}, w_heldTreeS n (ers ks1) i2 = some r → ∀ (O : Heap) (tk : Nat), ACalls Go.Proofs.Try.prog 119 [.imm q1 4 f1 (cellss ks1), .int .i64 i2] O tk (RetX O tk (fun v tk' => v = .int .i64 r))) : ∀ (q1 : Nat) (f1 : Bool) (ks1 : List LT) (i2 : Int) {r : Int}, w_heldTreeS (n + 1) (ers ks1) i2 = some r → ∀ (O : Heap) (tk : Nat), ACalls Go.Proofs.Try.prog 119 [.imm q1 4 f1 (cellss ks1), .int .i64 i2] O tk (RetX O tk (fun v tk' => v = .int .i64 r)) := by
 intro q1 f1 ks1 i2 r hM O tk
 rw [w_heldTreeS] at hM
 refine acalls_of_run Go.Proofs.Try.func119 rfl rfl [] [] (Bor.nil _) [(0, .imm q1 4 f1 (cellss ks1)), (1, .int .i64 i2)] (.cons (entS rfl) (.cons (entS rfl) (.nil _))) (leb rfl) (fun _ h => by cases h) (fun S0 hO htk hfz => ?_)
 refine run_sr ?_
 refine yR rfl ?_
 refine run_ops_nil ?_
 refine run_seq ?_
 refine run_sr ?_
 refine yR rfl ?_
 refine run_ops_nil ?_
 refine run_block ?_
 refine run_rounds (fun m σ => ∃ (i3 : Int) (i4 : Int) (tkw_heldTreeS_L1 : Nat), tk ≤ tkw_heldTreeS_L1 ∧ w_heldTreeS_L1 (w_heldTreeS n) n (ers ks1) m i3 i4 = some r ∧ σ = ⟨[(0, .imm q1 4 f1 (cellss ks1)), (1, .int .i64 i3), (4, .int .i64 0), (5, .int .i64 i4)], [], [], O, tkw_heldTreeS_L1⟩) n (Sub.pk [0, 1, 4, 5] rfl) ⟨i2, 0, tk, Nat.le_refl _, hM, rfl⟩ (fun m σ hI => ?_)
 clear hM
 obtain ⟨i3, i4, tkw_heldTreeS_L1, hle44, hM, rfl⟩ := hI
 obtain _ | m := m
 ·exact absurd hM (by rw [w_heldTreeS_L1]; exact fun h => by cases h)
 rw [w_heldTreeS_L1] at hM
 refine run_seq ?_
 refine run_sr ?_
 refine yL rfl ?_
 refine yL rfl ?_
 refine run_pu rfl (lenImm_step hG rfl rfl rfl rfl (tlen _)) rfl (ltb rfl) ?_
 refine yB rfl ?_
 refine run_ops_nil ?_
 refine run_ifd rfl rfl (fun hb5 => ?_) (fun hb5 => ?_)
 ·replace hM := ite_t hb5 hM
  refine run_skip ?_
  refine run_seq ?_
  refine run_block ?_
  refine run_seq ?_
  refine run_sr ?_
  refine yL rfl ?_
  refine yL rfl ?_
  obtain ⟨y6, hy7, hM⟩ := bind_t hM
  obtain ⟨k8, n8, s8, q8, f8, ks8, rfl, hc9, hi10⟩ := tidx hy7
  refine run_pu rfl (indexImm_step hG rfl rfl rfl hi10 rfl rfl rfl rfl hc9) rfl (ltb rfl) ?_
  refine yF hG rfl ?_
  refine yD hG rfl ?_
  refine yL rfl ?_
  refine yB rfl ?_
  refine run_ops_nil ?_
  refine run_ifb rfl rfl (fun hb11 => ?_) (fun hb11 => ?_)
  ·replace hM := ite_t hb11 hM
   refine run_sr ?_
   refine yR rfl ?_
   refine run_ops_nil ?_
   refine run_ret_to ?_
   obtain rfl := some_t hM
   refine fin_x hG rfl rfl rfl (v' := .int .i64 (-1)) (by rfl) ⟨rfl, (show tk ≤ tkw_heldTreeS_L1 by omega), _, rfl, rfl⟩
  replace hM := ite_f hb11 hM
  refine run_skip ?_
  refine run_sr ?_
  refine yL rfl ?_
  refine yB rfl ?_
  refine yR rfl ?_
  refine run_ops_nil ?_
  refine run_sub_code (σ' := ⟨[(0, .imm q1 4 f1 (cellss ks1)), (1, .int .i64 (IntKind.i64.wrap (i3 + 1))), (4, .int .i64 0), (5, .int .i64 i4)], [], [], O, tkw_heldTreeS_L1⟩) (Sub.env _ ⟨rfl, rfl, rfl, rfl, trivial⟩) ?_
  refine run_seq ?_
  refine run_sr ?_
  refine yL rfl ?_
  refine yL rfl ?_
  obtain ⟨y12, hy13, hM⟩ := bind_t hM
  obtain ⟨k14, n14, s14, q14, f14, ks14, rfl, hc15, hi16⟩ := tidx hy13
  refine run_pu rfl (indexImm_step hG rfl rfl rfl hi16 rfl rfl rfl rfl hc15) rfl (ltb rfl) ?_
  refine yF hG rfl ?_
  refine yD hG rfl ?_
  refine yL rfl ?_
  refine yB rfl ?_
  refine run_ops_nil ?_
  refine run_ifb rfl rfl (fun hb17 => ?_) (fun hb17 => ?_)
  ·replace hM := ite_t hb17 hM
   refine run_sr ?_
   refine yR rfl ?_
   refine run_ops_nil ?_
   refine run_ret_to ?_
   obtain rfl := some_t hM
   refine fin_x hG rfl rfl rfl (v' := .int .i64 (-1)) (by rfl) ⟨rfl, (show tk ≤ tkw_heldTreeS_L1 by omega), _, rfl, rfl⟩
  replace hM := ite_f hb17 hM
  refine run_skip ?_
  refine run_sr ?_
  refine yL rfl ?_
  refine yB rfl ?_
  refine yR rfl ?_
  refine run_ops_nil ?_
  refine run_seq ?_
  refine run_seq ?_
  refine run_draw [] (n := 8) mixed rfl (fun _ h => absurd h List.not_mem_nil) ?_
  refine yTV 0 (by kernel_rfl) rfl ?_
  refine yTV 1 (by kernel_rfl) rfl ?_
  obtain ⟨y18, hy19, hM⟩ := bind_t hM
  obtain ⟨k20, n20, s20, q20, f20, ks20, rfl, hc21, hi22⟩ := tidx hy19
  refine yT 2 (by kernel_rfl) rfl rfl rfl (ltb rfl) ((indexImm_step hG rfl rfl rfl hi22 rfl rfl rfl rfl hc21).rd _) ?_
  refine yTF hG 3 (by kernel_rfl) rfl ?_
  refine yTL hG 4 (by kernel_rfl) rfl ?_
  refine yTV 5 (by kernel_rfl) rfl ?_
  obtain ⟨r23, hg24, hM⟩ := bind_t hM
  refine yC 6 (by kernel_rfl) rfl rfl (w_markText_ok n (IntKind.i64.wrap ((IntKind.i64.wrap (i3 + 1)) + 1)) hg24 _ _) (callK_retX (fun v tk25 (hle26 : tkw_heldTreeS_L1 ≤ tk25) h27 => ?_))
  subst h27
  refine yT 7 (by kernel_rfl) rfl rfl rfl (ltb rfl) ((abin_step rfl rfl rfl rfl (fun _ h => by cases h)).rd _) ?_
  refine AAny.done (by kernel_rfl) ?_
  refine run_sub_code (σ' := ⟨[(0, .imm q1 4 f1 (cellss ks1)), (1, .int .i64 (IntKind.i64.wrap ((IntKind.i64.wrap (i3 + 1)) + 1))), (4, .int .i64 0), (5, .int .i64 i4), (37, .bool (!(s20.toList == r23.toList)))], [], [], O, tk25⟩) (Sub.env _ ⟨rfl, rfl, rfl, rfl, rfl, trivial⟩) ?_
  refine run_ifb rfl rfl (fun hb30 => ?_) (fun hb30 => ?_)
  ·replace hM := ite_t hb30 hM
   refine run_sr ?_
   refine yR rfl ?_
   refine run_ops_nil ?_
   refine run_ret_to ?_
   obtain rfl := some_t hM
   refine fin_x hG rfl rfl rfl (v' := .int .i64 (-1)) (by rfl) ⟨rfl, (show tk ≤ tk25 by omega), _, rfl, rfl⟩
  replace hM := ite_f hb30 hM
  refine run_skip ?_
  refine run_sr ?_
  refine yL rfl ?_
  refine yB rfl ?_
  refine yR rfl ?_
  refine run_ops_nil ?_
  refine run_sr ?_
  refine yL rfl ?_
  refine yL rfl ?_
  obtain ⟨y31, hy32, hM⟩ := bind_t hM
  obtain ⟨k33, n33, s33, q33, f33, ks33, rfl, hc34, hi35⟩ := tidx hy32
  refine run_pu rfl (indexImm_step hG rfl rfl rfl hi35 rfl rfl rfl rfl hc34) rfl (ltb rfl) ?_
  refine yF hG rfl ?_
  refine yD hG rfl ?_
  refine yL rfl ?_
  obtain ⟨r36, hg37, hM⟩ := bind_t hM
  refine yK rfl (ih_w_heldTreeS q33 f33 ks33 (IntKind.i64.wrap ((IntKind.i64.wrap ((IntKind.i64.wrap (i3 + 1)) + 1)) + 1)) hg37 _ _) (callK_retX (fun v tk38 (hle39 : tk25 ≤ tk38) h40 => ?_))
  subst h40
  refine yR rfl ?_
  refine run_ops_nil ?_
  refine run_sr ?_
  refine yL rfl ?_
  refine yB rfl ?_
  refine run_ops_nil ?_
  refine run_ifd rfl rfl (fun hb43 => ?_) (fun hb43 => ?_)
  ·replace hM := ite_t hb43 hM
   refine run_sr ?_
   refine yR rfl ?_
   refine run_ops_nil ?_
   refine run_ret_to ?_
   obtain rfl := some_t hM
   refine fin_x hG rfl rfl rfl (v' := .int .i64 (-1)) (by rfl) ⟨rfl, (show tk ≤ tk38 by omega), _, rfl, rfl⟩
  replace hM := ite_f hb43 hM
  refine run_skip ?_
  refine run_blk ?_
  refine run_region ?_
  refine yL rfl ?_
  refine yB rfl ?_
  refine yR rfl ?_
  refine run_ops_nil ?_
  exact run_loop_end ⟨m, _, Nat.lt_succ_self _, ⟨r36, (IntKind.i64.wrap (i4 + 1)), tk38, (show tk ≤ tk38 by omega), hM, rfl⟩, Sub.pk [0, 1, 4, 5] rfl⟩
 replace hM := ite_f hb5 hM
 refine run_exit_to rfl ?_
 refine run_sr ?_
 refine yL rfl ?_
 refine yR rfl ?_
 refine run_ops_nil ?_
 refine run_ret_to ?_
 obtain rfl := some_t hM
 refine fin_x hG rfl rfl rfl (v' := .int .i64 i3) (by rfl) ⟨rfl, (show tk ≤ tkw_heldTreeS_L1 by omega), _, rfl, rfl⟩

theorem w_heldTreeS_all : ∀ (n : Nat), (∀ (q1 : Nat) (f1 : Bool) (ks1 : List LT) (i2 : Int) {r : Int}, w_heldTreeS n (ers ks1) i2 = some r → ∀ (O : Heap) (tk : Nat), ACalls Go.Proofs.Try.prog 119 [.imm q1 4 f1 (cellss ks1), .int .i64 i2] O tk (RetX O tk (fun v tk' => v = .int .i64 r)))
 | 0 => by intro q1 f1 ks1 i2 r hM; rw [w_heldTreeS] at hM; cases hM
 | n + 1 => have ih := w_heldTreeS_all n; w_heldTreeS_st n (ih)

theorem w_heldTreeS_ok (n : Nat) : ∀ (q1 : Nat) (f1 : Bool) (ks1 : List LT) (i2 : Int) {r : Int}, w_heldTreeS n (ers ks1) i2 = some r → ∀ (O : Heap) (tk : Nat), ACalls Go.Proofs.Try.prog 119 [.imm q1 4 f1 (cellss ks1), .int .i64 i2] O tk (RetX O tk (fun v tk' => v = .int .i64 r)) := w_heldTreeS_all n

def w_heldTree (n : Nat) (x1 : T) (i2 : Int) : Option Int :=
 (w_heldTreeS n x1.kids i2).bind fun r3 =>
 if r3 < 0 then
  some (-1)
 else
  some r3

set_option maxRecDepth 100000 in
theorem w_heldTree_ok (n : Nat) : ∀ (k1 : Int) (n1 : Int) (s1 : ByteArray) (q1 : Nat) (f1 : Bool) (ks1 : List LT) (i2 : Int) {r : Int}, w_heldTree n (T.mk k1 n1 s1 (ers ks1)) i2 = some r → ∀ (O : Heap) (tk : Nat), ACalls Go.Proofs.Try.prog 48 [.agg [.int .i64 k1, .int .i64 n1, .str s1, .imm q1 4 f1 (cellss ks1)], .int .i64 i2] O tk (RetX O tk (fun v tk' => v = .int .i64 r)) := by
 intro k1 n1 s1 q1 f1 ks1 i2 r hM O tk
 unfold w_heldTree at hM
 refine acalls_of_run Go.Proofs.Try.func48 rfl rfl [] [] (Bor.nil _) [(0, .agg [.int .i64 k1, .int .i64 n1, .str s1, .imm q1 4 f1 (cellss ks1)]), (1, .int .i64 i2)] (.cons (.agg _) (.cons (entS rfl) (.nil _))) (leb rfl) (fun _ h => by cases h) (fun S0 hO htk hfz => ?_)
 refine run_sr ?_
 refine run_op rfl (box_step (d := 2) rfl rfl rfl rfl rfl) rfl (ltb rfl) ?_
 refine yR rfl ?_
 refine run_ops_nil ?_
 refine run_sr ?_
 refine yF hG rfl ?_
 refine yD hG rfl ?_
 refine yL rfl ?_
 obtain ⟨r3, hg4, hM⟩ := bind_t hM
 refine yK rfl (w_heldTreeS_ok n q1 f1 ks1 i2 hg4 _ _) (callK_retX (fun v tk5 (hle6 : tk ≤ tk5) h7 => ?_))
 subst h7
 refine yR rfl ?_
 refine run_ops_nil ?_
 refine run_seq ?_
 refine run_sr ?_
 refine yL rfl ?_
 refine yB rfl ?_
 refine run_ops_nil ?_
 refine run_ifd rfl rfl (fun hb10 => ?_) (fun hb10 => ?_)
 ·replace hM := ite_t hb10 hM
  refine run_sr ?_
  refine yR rfl ?_
  refine run_ops_nil ?_
  refine run_ret_to ?_
  obtain rfl := some_t hM
  refine fin_x hG rfl rfl rfl (v' := .int .i64 (-1)) (by rfl) ⟨rfl, (show tk ≤ tk5 by omega), _, rfl, rfl⟩
 replace hM := ite_f hb10 hM
 refine run_skip ?_
 refine run_sr ?_
 refine yL rfl ?_
 refine yR rfl ?_
 refine run_ops_nil ?_
 refine run_ret_to ?_
 obtain rfl := some_t hM
 refine fin_x hG rfl rfl rfl (v' := .int .i64 r3) (by rfl) ⟨rfl, (show tk ≤ tk5 by omega), _, rfl, rfl⟩

end Go.Am.Ytaedacibojpfkaa
