/- Printed by a program of ours: Lean functions that do what the Go functions do, and the contracts. -/
import Derived.Test.YtoajlhhalpldfaaGreatDoorMi3
import Derived.Test.YtoajlhhalpldfaaGreatDoorTypes
import Derived.Test.YtoajlhhalpldfaaGreatDoorMeTree
import Derived.Test.YtoajlhhalpldfaaGreatDoorMz
-- packed
namespace Go.Am.YtoajlhhalpldfaaGreatDoor
open Go Go.Am

def w_szTreeS_L1 (rec_w_szTree : T → Int → Option Int) (l1 : List T) : Nat → Int → Int → Option Int
 | 0, _, _ => none
 | m + 1, i4, i5 =>
  if i5 < ((l1).length : Int) then
   (idx l1 i5).bind fun y7 =>
   (rec_w_szTree y7 i4).bind fun r12 =>
   if r12 < 0 then
    some (-1)
   else
    w_szTreeS_L1 rec_w_szTree l1 m r12 (IntKind.i64.wrap (i5 + 1))
  else
   some i4

mutual

def w_szTree : Nat → T → Int → Option Int
 | 0, _, _ => none
 | n + 1, x1, i2 =>
  if (IntKind.i64.wrap (i2 - (x1.name.size : Int))) < 0 then
   some (-1)
  else
   (w_szTreeS n x1.kids (IntKind.i64.wrap (i2 - (x1.name.size : Int)))).bind fun r4 =>
   if r4 < 0 then
    some (-1)
   else
    some r4

def w_szTreeS : Nat → List T → Int → Option Int
 | 0, _, _ => none
 | n + 1, l1, i2 =>
  if (IntKind.i64.wrap (i2 - ((l1).length : Int))) < 0 then
   some (-1)
  else
   w_szTreeS_L1 (w_szTree n) l1 n (IntKind.i64.wrap (i2 - ((l1).length : Int))) 0

end

def w_szTree_P (n : Nat) : Prop := ∀ (k1 : Int) (n1 : Int) (s1 : ByteArray) (q1 : Nat) (f1 : Bool) (ks1 : List LT) (i2 : Int) {r : Int}, w_szTree n (T.mk k1 n1 s1 (ers ks1)) i2 = some r → ∀ (O : Heap) (tk : Nat), ACalls Go.Proofs.Tryz.prog 12 [.agg [.int .i64 k1, .int .i64 n1, .str s1, .imm q1 4 f1 (cellss ks1)], .int .i64 i2] O tk (RetX O tk (fun v tk' => v = .int .i64 r))

set_option maxRecDepth 100000 in
theorem w_szTree_st (n : Nat) (ih_w_szTreeS : ∀ (q1 : Nat) (f1 : Bool) (ks1 : List LT) (i2 : Int) {r : Int}, w_szTreeS n (ers ks1) i2 = some r → ∀ (O : Heap) (tk : Nat), ACalls Go.Proofs.Tryz.prog 38 [.imm q1 4 f1 (cellss ks1), .int .i64 i2] O tk (RetX O tk (fun v tk' => v = .int .i64 r))) : w_szTree_P (n + 1) := by
 intro k1 n1 s1 q1 f1 ks1 i2 r hM O tk
 rw [w_szTree] at hM
 refine acalls_of_run Go.Proofs.Tryz.func12 rfl rfl [] [] (Bor.nil _) [(0, .agg [.int .i64 k1, .int .i64 n1, .str s1, .imm q1 4 f1 (cellss ks1)]), (1, .int .i64 i2)] (.cons (.agg _) (.cons (entS rfl) (.nil _))) (leb rfl) (fun _ h => by cases h) (fun S0 hO htk hfz => ?_)
 refine run_sr ?_
 refine run_op rfl (box_step (d := 2) rfl rfl rfl rfl rfl) rfl (ltb rfl) ?_
 refine yR rfl ?_
 refine yN ?_
 refine run_sr ?_
 refine yL rfl ?_
 refine yF hG rfl ?_
 refine yD hG rfl ?_
 refine run_pu rfl (len_step hG rfl rfl rfl rfl) rfl (ltb rfl) ?_
 refine yB rfl ?_
 refine yR rfl ?_
 refine yN ?_
 refine run_seq ?_
 refine run_sr ?_
 refine yL rfl ?_
 refine yB rfl ?_
 refine yN ?_
 refine run_ifd rfl rfl (fun hb3 => ?_) (fun hb3 => ?_)
 ·replace hM := ite_t hb3 hM
  refine run_sr ?_
  refine yR rfl ?_
  refine yN ?_
  refine run_ret_to ?_
  obtain rfl := some_t hM
  refine fin_x hG rfl rfl rfl (v' := .int .i64 (-1)) (by rfl) ⟨rfl, (show tk ≤ tk by omega), _, rfl, rfl⟩
 replace hM := ite_f hb3 hM
 refine run_skip ?_
 refine run_sr ?_
 refine yF hG rfl ?_
 refine yD hG rfl ?_
 refine yL rfl ?_
 obtain ⟨r4, hg5, hM⟩ := bind_t hM
 refine yK rfl (ih_w_szTreeS q1 f1 ks1 (IntKind.i64.wrap (i2 - (s1.size : Int))) hg5 _ _) (callK_retX (fun v tk6 (hle7 : tk ≤ tk6) h8 => ?_))
 subst h8
 refine yR rfl ?_
 refine yN ?_
 refine run_sub_code (σ' := ⟨[(1, .int .i64 r4), (4, .int .i64 0)], [], [], O, tk6⟩) (Sub.trans (Sub.drop (k := 2) rfl) (Sub.env _ ⟨rfl, rfl, trivial⟩)) ?_
 refine run_seq ?_
 refine run_sr ?_
 refine yL rfl ?_
 refine yB rfl ?_
 refine yN ?_
 refine run_ifd rfl rfl (fun hb11 => ?_) (fun hb11 => ?_)
 ·replace hM := ite_t hb11 hM
  refine run_sr ?_
  refine yR rfl ?_
  refine yN ?_
  refine run_ret_to ?_
  obtain rfl := some_t hM
  refine fin_x hG rfl rfl rfl (v' := .int .i64 (-1)) (by rfl) ⟨rfl, (show tk ≤ tk6 by omega), _, rfl, rfl⟩
 replace hM := ite_f hb11 hM
 refine run_skip ?_
 refine run_sr ?_
 refine yL rfl ?_
 refine yR rfl ?_
 refine yN ?_
 refine run_ret_to ?_
 obtain rfl := some_t hM
 refine fin_x hG rfl rfl rfl (v' := .int .i64 r4) (by rfl) ⟨rfl, (show tk ≤ tk6 by omega), _, rfl, rfl⟩

set_option maxRecDepth 100000 in
theorem w_szTreeS_st (n : Nat) (ih_w_szTree : w_szTree_P n) : ∀ (q1 : Nat) (f1 : Bool) (ks1 : List LT) (i2 : Int) {r : Int}, w_szTreeS (n + 1) (ers ks1) i2 = some r → ∀ (O : Heap) (tk : Nat), ACalls Go.Proofs.Tryz.prog 38 [.imm q1 4 f1 (cellss ks1), .int .i64 i2] O tk (RetX O tk (fun v tk' => v = .int .i64 r)) := by
 intro q1 f1 ks1 i2 r hM O tk
 rw [w_szTreeS] at hM
 refine acalls_of_run Go.Proofs.Tryz.func38 rfl rfl [] [] (Bor.nil _) [(0, .imm q1 4 f1 (cellss ks1)), (1, .int .i64 i2)] (.cons (entS rfl) (.cons (entS rfl) (.nil _))) (leb rfl) (fun _ h => by cases h) (fun S0 hO htk hfz => ?_)
 refine run_sr ?_
 refine yR rfl ?_
 refine yN ?_
 refine run_sr ?_
 refine yL rfl ?_
 refine yL rfl ?_
 refine run_pu rfl (lenImm_step hG rfl rfl rfl rfl (tlen _)) rfl (ltb rfl) ?_
 refine yB rfl ?_
 refine yR rfl ?_
 refine yN ?_
 refine run_seq ?_
 refine run_sr ?_
 refine yL rfl ?_
 refine yB rfl ?_
 refine yN ?_
 refine run_ifd rfl rfl (fun hb3 => ?_) (fun hb3 => ?_)
 ·replace hM := ite_t hb3 hM
  refine run_sr ?_
  refine yR rfl ?_
  refine yN ?_
  refine run_ret_to ?_
  obtain rfl := some_t hM
  refine fin_x hG rfl rfl rfl (v' := .int .i64 (-1)) (by rfl) ⟨rfl, (show tk ≤ tk by omega), _, rfl, rfl⟩
 replace hM := ite_f hb3 hM
 refine run_skip ?_
 refine run_seq ?_
 refine run_sr ?_
 refine yR rfl ?_
 refine yN ?_
 refine run_block ?_
 refine run_rounds (fun m σ => ∃ (i4 : Int) (i5 : Int) (tkw_szTreeS_L1 : Nat), tk ≤ tkw_szTreeS_L1 ∧ w_szTreeS_L1 (w_szTree n) (ers ks1) m i4 i5 = some r ∧ σ = ⟨[(0, .imm q1 4 f1 (cellss ks1)), (1, .int .i64 i4), (4, .int .i64 0), (5, .int .i64 i5)], [], [], O, tkw_szTreeS_L1⟩) n (Sub.pk [0, 1, 4, 5] rfl) ⟨(IntKind.i64.wrap (i2 - (((ers ks1)).length : Int))), 0, tk, Nat.le_refl _, hM, rfl⟩ (fun m σ hI => ?_)
 clear hM
 obtain ⟨i4, i5, tkw_szTreeS_L1, hle20, hM, rfl⟩ := hI
 obtain _ | m := m
 ·exact absurd hM (by rw [w_szTreeS_L1]; exact fun h => by cases h)
 rw [w_szTreeS_L1] at hM
 refine run_seq ?_
 refine run_sr ?_
 refine yL rfl ?_
 refine yL rfl ?_
 refine run_pu rfl (lenImm_step hG rfl rfl rfl rfl (tlen _)) rfl (ltb rfl) ?_
 refine yB rfl ?_
 refine yN ?_
 refine run_ifd rfl rfl (fun hb6 => ?_) (fun hb6 => ?_)
 ·replace hM := ite_t hb6 hM
  refine run_skip ?_
  refine run_seq ?_
  refine run_block ?_
  refine run_sr ?_
  refine yL rfl ?_
  refine yL rfl ?_
  obtain ⟨y7, hy8, hM⟩ := bind_t hM
  obtain ⟨k9, n9, s9, q9, f9, ks9, rfl, hc10, hi11⟩ := tidx (ks := ks1) hy8
  refine run_pu rfl (indexImm_step hG rfl rfl rfl hi11 rfl rfl rfl rfl hc10) rfl (ltb rfl) ?_
  refine yD hG rfl ?_
  refine yL rfl ?_
  obtain ⟨r12, hg13, hM⟩ := bind_t hM
  refine yK rfl (ih_w_szTree k9 n9 s9 q9 f9 ks9 i4 hg13 _ _) (callK_retX (fun v tk14 (hle15 : tkw_szTreeS_L1 ≤ tk14) h16 => ?_))
  subst h16
  refine yR rfl ?_
  refine yN ?_
  refine run_sr ?_
  refine yL rfl ?_
  refine yB rfl ?_
  refine yN ?_
  refine run_ifd rfl rfl (fun hb19 => ?_) (fun hb19 => ?_)
  ·replace hM := ite_t hb19 hM
   refine run_sr ?_
   refine yR rfl ?_
   refine yN ?_
   refine run_ret_to ?_
   obtain rfl := some_t hM
   refine fin_x hG rfl rfl rfl (v' := .int .i64 (-1)) (by rfl) ⟨rfl, (show tk ≤ tk14 by omega), _, rfl, rfl⟩
  replace hM := ite_f hb19 hM
  refine run_skip ?_
  refine run_blk ?_
  refine run_region ?_
  refine yL rfl ?_
  refine yB rfl ?_
  refine yR rfl ?_
  refine yN ?_
  exact run_loop_end ⟨m, _, Nat.lt_succ_self _, ⟨r12, (IntKind.i64.wrap (i5 + 1)), tk14, (show tk ≤ tk14 by omega), hM, rfl⟩, Sub.pk [0, 1, 4, 5] rfl⟩
 replace hM := ite_f hb6 hM
 refine run_exit_to rfl ?_
 refine run_sr ?_
 refine yL rfl ?_
 refine yR rfl ?_
 refine yN ?_
 refine run_ret_to ?_
 obtain rfl := some_t hM
 refine fin_x hG rfl rfl rfl (v' := .int .i64 i4) (by rfl) ⟨rfl, (show tk ≤ tkw_szTreeS_L1 by omega), _, rfl, rfl⟩

theorem w_szTree_all : ∀ (n : Nat), (w_szTree_P n) ∧ (∀ (q1 : Nat) (f1 : Bool) (ks1 : List LT) (i2 : Int) {r : Int}, w_szTreeS n (ers ks1) i2 = some r → ∀ (O : Heap) (tk : Nat), ACalls Go.Proofs.Tryz.prog 38 [.imm q1 4 f1 (cellss ks1), .int .i64 i2] O tk (RetX O tk (fun v tk' => v = .int .i64 r)))
 | 0 => ⟨(by intro k1 n1 s1 q1 f1 ks1 i2 r hM; rw [w_szTree] at hM; cases hM), (by intro q1 f1 ks1 i2 r hM; rw [w_szTreeS] at hM; cases hM)⟩
 | n + 1 => have ih := w_szTree_all n; ⟨w_szTree_st n (ih.2), w_szTreeS_st n (ih.1)⟩

theorem w_szTree_ok (n : Nat) : w_szTree_P n := (w_szTree_all n).1

def w_toTreeS_L1 (rec_w_toTree : T → Option T) (l1 : List T) : Nat → Int → List T → Option (List T)
 | 0, _, _ => none
 | m + 1, i3, l4 =>
  if i3 < ((l1).length : Int) then
   (idx l1 i3).bind fun y6 =>
   (rec_w_toTree y6).bind fun r11 =>
   chk (i3 = ((l4).length : Int) ∧ (l4).length < (l1).length) <|
   w_toTreeS_L1 rec_w_toTree l1 m (IntKind.i64.wrap (i3 + 1)) (l4 ++ [r11])
  else
   chk ((l4).length = (l1).length) <|
   some l4

mutual

def w_toTree : Nat → T → Option T
 | 0, _ => none
 | n + 1, x1 =>
  (w_toTreeS n x1.kids).bind fun r2 =>
  some (T.mk x1.kind x1.n x1.name r2)

def w_toTreeS : Nat → List T → Option (List T)
 | 0, _ => none
 | n + 1, l1 =>
  chk ((l1).length ≤ 1099511627776) <|
  w_toTreeS_L1 (w_toTree n) l1 n 0 ([])

end

def w_toTree_P (n : Nat) : Prop := ∀ (k1 : Int) (n1 : Int) (s1 : ByteArray) (q1 : Nat) (f1 : Bool) (ks1 : List LT) {r : T}, w_toTree n (T.mk k1 n1 s1 (ers ks1)) = some r → ∀ (O : Heap) (tk : Nat), ACalls Go.Proofs.Tryz.prog 14 [.agg [.int .i64 k1, .int .i64 n1, .str s1, .imm q1 4 f1 (cellss ks1)]] O tk (RetX O tk (fun v tk' => VT true tk tk' r v))

set_option maxRecDepth 100000 in
theorem w_toTree_st (n : Nat) (ih_w_toTreeS : ∀ (q1 : Nat) (f1 : Bool) (ks1 : List LT) {r : (List T)}, w_toTreeS n (ers ks1) = some r → ∀ (O : Heap) (tk : Nat), ACalls Go.Proofs.Tryz.prog 43 [.imm q1 4 f1 (cellss ks1)] O tk (RetX O tk (fun v tk' => VTs true tk tk' r v))) : w_toTree_P (n + 1) := by
 intro k1 n1 s1 q1 f1 ks1 r hM O tk
 rw [w_toTree] at hM
 refine acalls_of_run Go.Proofs.Tryz.func14 rfl rfl [] [] (Bor.nil _) [(0, .agg [.int .i64 k1, .int .i64 n1, .str s1, .imm q1 4 f1 (cellss ks1)])] (.cons (.agg _) (.nil _)) (leb rfl) (fun _ h => by cases h) (fun S0 hO htk hfz => ?_)
 refine run_sr ?_
 refine run_op rfl (box_step (d := 1) rfl rfl rfl rfl rfl) rfl (ltb rfl) ?_
 refine run_op rfl (alloc_step (d := 2) hG rfl rfl rfl) rfl (ltb rfl) ?_
 refine yN ?_
 refine run_sr ?_
 refine run_op rfl (alloc_step (d := 3) hG rfl rfl rfl) rfl (ltb rfl) ?_
 refine yN ?_
 refine run_sr ?_
 refine yF hG rfl ?_
 refine yD hG rfl ?_
 refine yF hG rfl ?_
 refine yS hG rfl ?_
 refine yN ?_
 refine run_sr ?_
 refine yF hG rfl ?_
 refine yD hG rfl ?_
 refine yF hG rfl ?_
 refine yS hG rfl ?_
 refine yN ?_
 refine run_sr ?_
 refine yF hG rfl ?_
 refine yD hG rfl ?_
 refine yF hG rfl ?_
 refine yS hG rfl ?_
 refine yN ?_
 refine run_sub_code (σ' := ⟨[(1, .optr (.loc 1) 0 0), (2, .optr (.loc 2) 0 0), (3, .optr (.loc 3) 0 0)], [(3, ⟨27, 4, true, [[.int .i64 k1, .int .i64 n1, .str s1, .imm 0 4 true []]]⟩), (2, ⟨27, 4, true, [[.int .i64 0, .int .i64 0, .str ⟨#[]⟩, .imm 0 4 true []]]⟩), (1, ⟨38, 4, true, [[.int .i64 k1, .int .i64 n1, .str s1, .imm q1 4 f1 (cellss ks1)]]⟩)], [], O, tk⟩) (Sub.env _ ⟨rfl, rfl, rfl, trivial⟩) ?_
 refine run_sr ?_
 refine yF hG rfl ?_
 refine yD hG rfl ?_
 obtain ⟨r2, hg3, hM⟩ := bind_t hM
 refine yK rfl (ih_w_toTreeS q1 f1 ks1 hg3 _ _) (callK_retX (fun v tk4 (hle5 : tk ≤ tk4) h6 => ?_))
 obtain ⟨q7, f7, ks7, rfl, rfl, hf8⟩ := h6
 refine yF hG rfl ?_
 refine yS hG rfl ?_
 refine yN ?_
 refine run_sr ?_
 refine yD hG rfl ?_
 refine yS hG rfl ?_
 refine yN ?_
 refine run_ret_to ?_
 obtain rfl := some_t hM
 refine fin_x hG rfl rfl rfl (v' := .agg [.int .i64 k1, .int .i64 n1, .str s1, .imm q7 4 f7 (cellss ks7)]) (by rfl) ⟨rfl, (show tk ≤ tk4 by omega), _, rfl, ⟨k1, n1, s1, q7, f7, ks7, rfl, rfl, fun _ => (show Fr tk tk4 _ from ((show Fr tk tk4 _ from hf8 rfl)).mono (by omega) (by omega))⟩⟩

set_option maxRecDepth 100000 in
theorem w_toTreeS_st (n : Nat) (ih_w_toTree : w_toTree_P n) : ∀ (q1 : Nat) (f1 : Bool) (ks1 : List LT) {r : (List T)}, w_toTreeS (n + 1) (ers ks1) = some r → ∀ (O : Heap) (tk : Nat), ACalls Go.Proofs.Tryz.prog 43 [.imm q1 4 f1 (cellss ks1)] O tk (RetX O tk (fun v tk' => VTs true tk tk' r v)) := by
 intro q1 f1 ks1 r hM O tk
 rw [w_toTreeS] at hM
 refine acalls_of_run Go.Proofs.Tryz.func43 rfl rfl [] [] (Bor.nil _) [(0, .imm q1 4 f1 (cellss ks1))] (.cons (entS rfl) (.nil _)) (leb rfl) (fun _ h => by cases h) (fun S0 hO htk hfz => ?_)
 refine run_sr ?_
 refine yR rfl ?_
 refine yN ?_
 refine run_sr ?_
 refine yL rfl ?_
 refine run_pu rfl (lenImm_step hG rfl rfl rfl rfl (tlen _)) rfl (ltb rfl) ?_
 obtain ⟨hc2, hM⟩ := chk_t hM
 refine run_op rfl (makePad_step (d := 7) hG rfl rfl rfl rfl rfl rfl rfl hc2 (by decide) (padT_mk _)) rfl (ltb rfl) ?_
 refine yR rfl ?_
 refine yN ?_
 refine run_seq ?_
 refine run_sr ?_
 refine yR rfl ?_
 refine yN ?_
 refine run_block ?_
 refine run_rounds (fun m σ => ∃ (i3 : Int) (ks4 : List LT) (tkw_toTreeS_L1 : Nat), tk ≤ tkw_toTreeS_L1 ∧ Fr tk tkw_toTreeS_L1 (ttoks ks4) ∧ w_toTreeS_L1 (w_toTree n) (ers ks1) m i3 (ers ks4) = some r ∧ σ = ⟨[(0, .imm q1 4 f1 (cellss ks1)), (2, .imm 0 0 true []), (3, .osl (.loc 7)), (4, .int .i64 i3)], [(7, ⟨27, 4, false, cellss (pad ((ers ks1)).length zT ks4)⟩)], [], O, tkw_toTreeS_L1⟩) n (Sub.pk [0, 2, 3, 4] rfl) ⟨0, [], tk, Nat.le_refl _, Fr.nil _ _, hM, rfl⟩ (fun m σ hI => ?_)
 clear hM
 obtain ⟨i3, ks4, tkw_toTreeS_L1, hle20, hfr4, hM, rfl⟩ := hI
 obtain _ | m := m
 ·exact absurd hM (by rw [w_toTreeS_L1]; exact fun h => by cases h)
 rw [w_toTreeS_L1] at hM
 refine run_seq ?_
 refine run_sr ?_
 refine yL rfl ?_
 refine yL rfl ?_
 refine run_pu rfl (lenImm_step hG rfl rfl rfl rfl (tlen _)) rfl (ltb rfl) ?_
 refine yB rfl ?_
 refine yN ?_
 refine run_ifd rfl rfl (fun hb5 => ?_) (fun hb5 => ?_)
 ·replace hM := ite_t hb5 hM
  refine run_skip ?_
  refine run_seq ?_
  refine run_block ?_
  refine run_region ?_
  refine yL rfl ?_
  refine yL rfl ?_
  refine yL rfl ?_
  refine yL rfl ?_
  obtain ⟨y6, hy7, hM⟩ := bind_t hM
  obtain ⟨k8, n8, s8, q8, f8, ks8, rfl, hc9, hi10⟩ := tidx (ks := ks1) hy7
  refine run_pu rfl (indexImm_step hG rfl rfl rfl hi10 rfl rfl rfl rfl hc9) rfl (ltb rfl) ?_
  refine yD hG rfl ?_
  obtain ⟨r11, hg12, hM⟩ := bind_t hM
  refine yK rfl (ih_w_toTree k8 n8 s8 q8 f8 ks8 hg12 _ _) (callK_retX (fun v tk13 (hle14 : tkw_toTreeS_L1 ≤ tk13) h15 => ?_))
  obtain ⟨k16, n16, s16, q16, f16, ks16, rfl, rfl, hf17⟩ := h15
  obtain ⟨hc18, hM⟩ := chk_t hM
  refine run_pu rfl (indexOsl_step hG rfl rfl rfl rfl (nat_of hc18) rfl rfl rfl rfl (padT_len hc18)) rfl (ltb rfl) ?_
  try rw [show ((ers ks4) ++ [(T.mk k16 n16 s16 (ers ks16))] : List T) = (ers (ks4 ++ [LT.mk k16 n16 s16 q16 f16 ks16])) from ers_app ks4 [LT.mk k16 n16 s16 q16 f16 ks16]] at hM
  refine run_op0 rfl (store_step hG rfl rfl rfl rfl rfl rfl rfl (astore_row (cs := (LT.mk k16 n16 s16 q16 f16 ks16).cells) (e := zT.cells) rfl (padT_get hc18) rfl (forceT (LT.mk k16 n16 s16 q16 f16 ks16)) rfl (padT_set (t := LT.mk k16 n16 s16 q16 f16 ks16) hc18))) rfl ?_
  refine yN ?_
  refine run_blk ?_
  refine run_region ?_
  refine yL rfl ?_
  refine yB rfl ?_
  refine yR rfl ?_
  refine yN ?_
  exact run_loop_end ⟨m, _, Nat.lt_succ_self _, ⟨(IntKind.i64.wrap (i3 + 1)), (ks4 ++ [LT.mk k16 n16 s16 q16 f16 ks16]), tk13, (show tk ≤ tk13 by omega), (show Fr tk tk13 _ from (Fr.tsnoc (show Fr tk tkw_toTreeS_L1 _ from (hfr4).mono (by omega) (by omega)) ((show Fr tkw_toTreeS_L1 tk13 _ from hf17 rfl)) (by omega) (by omega)).mono (by omega) (by omega)), hM, rfl⟩, Sub.pk [0, 2, 3, 4] rfl⟩
 replace hM := ite_f hb5 hM
 refine run_exit_to rfl ?_
 refine run_sr ?_
 refine yL rfl ?_
 refine yR rfl ?_
 refine yN ?_
 refine run_ret_to ?_
 obtain ⟨hc19, hM⟩ := chk_t hM
 rw [padT_full hc19]
 refine fin_sub (Sub.freeze (k := 7) rfl rfl) ?_
 obtain rfl := some_t hM
 refine fin_x hG rfl rfl rfl (v' := .imm tkw_toTreeS_L1 4 false (cellss ks4)) (by rfl) ⟨rfl, (show tk ≤ (tkw_toTreeS_L1 + 1) by omega), _, rfl, ⟨tkw_toTreeS_L1, false, ks4, rfl, rfl, fun _ => (show Fr tk (tkw_toTreeS_L1 + 1) _ from (show Fr tk (tkw_toTreeS_L1 + 1) _ from Fr.tstop (show Fr tk tkw_toTreeS_L1 _ from (hfr4).mono (by omega) (by omega)) (by omega) (by omega)).mono (by omega) (by omega))⟩⟩

theorem w_toTree_all : ∀ (n : Nat), (w_toTree_P n) ∧ (∀ (q1 : Nat) (f1 : Bool) (ks1 : List LT) {r : (List T)}, w_toTreeS n (ers ks1) = some r → ∀ (O : Heap) (tk : Nat), ACalls Go.Proofs.Tryz.prog 43 [.imm q1 4 f1 (cellss ks1)] O tk (RetX O tk (fun v tk' => VTs true tk tk' r v)))
 | 0 => ⟨(by intro k1 n1 s1 q1 f1 ks1 r hM; rw [w_toTree] at hM; cases hM), (by intro q1 f1 ks1 r hM; rw [w_toTreeS] at hM; cases hM)⟩
 | n + 1 => have ih := w_toTree_all n; ⟨w_toTree_st n (ih.2), w_toTreeS_st n (ih.1)⟩

theorem w_toTree_ok (n : Nat) : w_toTree_P n := (w_toTree_all n).1

end Go.Am.YtoajlhhalpldfaaGreatDoor
