/- Printed by a program of ours: Lean functions that do what the Go functions do, and the contracts. -/
import Derived.Test.YtiobknkpdkkikabDoorMl0
import Derived.Test.YtiobknkpdkkikabDoorMb1
import Derived.Test.YtiobknkpdkkikabDoorMb3
import Derived.Test.YtiobknkpdkkikabDoorTypes
import Derived.Test.YtiobknkpdkkikabDoorMi4
import Derived.Test.YtiobknkpdkkikabDoorMc1
import Derived.Test.YtiobknkpdkkikabDoorEkRes
import Derived.Test.YtiobknkpdkkikabDoorDkSimple
-- packed
namespace Go.Am.YtiobknkpdkkikabDoor
open Go Go.Am

def i_work_apply_L1 (rec_i_work_put : (Int) → T → T → Int → T → Option (Rz (T × (Int)))) (l5 : List T) : Nat → Int → Int → Int → Int → ByteArray → List T → Int → Int → ByteArray → List T → Option (Rz (T × (Int)))
 | 0, _, _, _, _, _, _, _, _, _, _ => none
 | m + 1, i6, i7, i8, i9, t10, l11, i12, i13, t14, l15 =>
  if i6 < ((l5).length : Int) then
   (idx l5 i6).bind fun y17 =>
   if (i12 != 10) = true then
    some (.stop 12 0)
   else
    if (i8 != 4) = true then
     some (.stop 12 0)
    else
     if (IntKind.i64.wrap (i7 + 1)) > 20000 then
      some (.stop 17 0)
     else
      (idx l15 0).bind fun y25 =>
      (idx l11 0).bind fun y30 =>
      zb (rec_i_work_put ((IntKind.i64.wrap (i7 + 1))) y17 y25 0 y30) fun r35 =>
      (idx l15 1).bind fun y47 =>
      i_work_apply_L1 rec_i_work_put l5 m (IntKind.i64.wrap (i6 + 1)) r35.2 r35.1.kind r35.1.n r35.1.name r35.1.kids y47.kind y47.n y47.name y47.kids
  else
   some (.ok ((T.mk i8 i9 t10 l11), (i7)))

def i_work_put_L1 (rec_i_work_apply : (Int) → T → T → List T → Option (Rz (T × (Int)))) (rec_i_work_put : (Int) → T → T → Int → T → Option (Rz (T × (Int)))) (n : Nat) (x3 : T) (x4 : T) (i5 : Int) (x6 : T) : Nat → Int → Int → List T → Option (Rz (T × (Int)))
 | 0, _, _, _ => none
 | m + 1, i7, i8, l9 =>
  if i7 < ((x6.kids).length : Int) then
   (idx x6.kids i7).bind fun y11 =>
   (i_Tree_under x6 i7).bind fun r16 =>
   zb (rec_i_work_put (i8) x3 x4 (IntKind.i64.wrap (i5 + r16)) y11) fun r23 =>
   chk ((l9).length + ([r23.1]).length ≤ 1099511627776) <|
   i_work_put_L1 rec_i_work_apply rec_i_work_put n x3 x4 i5 x6 m (IntKind.i64.wrap (i7 + 1)) r23.2 (l9 ++ [r23.1])
  else
   jn (
    if x6.kind = 5 then
     if x6.n > i5 then
      zb (i_formed n (T.mk x6.kind (IntKind.i64.wrap (x6.n - 1)) x6.name l9)) fun r69 =>
      some (.ok (r69, (i8)))
     else
      zb (i_formed n (T.mk x6.kind x6.n x6.name l9)) fun r78 =>
      some (.ok (r78, (i8)))
    else
     zb (i_formed n (T.mk x6.kind x6.n x6.name l9)) fun r87 =>
     some (.ok (r87, (i8)))) fun j36 =>
   if x6.kind = 5 then
    if x6.n = i5 then
     (i_lift n x3 0 i5).bind fun r39 =>
     zb (i_formed n r39) fun r46 =>
     zb (rec_i_work_apply (i8) r46 x4 l9) fun r55 =>
     some (.ok (r55.1, (r55.2)))
    else
     j36
   else
    j36

mutual

def i_work_apply : Nat → (Int) → T → T → List T → Option (Rz (T × (Int)))
 | 0, _, _, _, _ => none
 | n + 1, z1, x3, x4, l5 =>
  i_work_apply_L1 (i_work_put n) l5 n 0 z1 x3.kind x3.n x3.name x3.kids x4.kind x4.n x4.name x4.kids

def i_work_put : Nat → (Int) → T → T → Int → T → Option (Rz (T × (Int)))
 | 0, _, _, _, _, _ => none
 | n + 1, z1, x3, x4, i5, x6 =>
  i_work_put_L1 (i_work_apply n) (i_work_put n) n x3 x4 i5 x6 n 0 z1 ([])

end

set_option maxRecDepth 100000 in
theorem i_work_apply_st (n : Nat) (ih_i_work_put : ∀ (X0 : ID) (i2 : Int) (k3 : Int) (n3 : Int) (s3 : ByteArray) (q3 : Nat) (f3 : Bool) (ks3 : List LT) (k4 : Int) (n4 : Int) (s4 : ByteArray) (q4 : Nat) (f4 : Bool) (ks4 : List LT) (i5 : Int) (k6 : Int) (n6 : Int) (s6 : ByteArray) (q6 : Nat) (f6 : Bool) (ks6 : List LT) {r : (Rz (T × (Int)))}, i_work_put n (i2) (T.mk k3 n3 s3 (ers ks3)) (T.mk k4 n4 s4 (ers ks4)) i5 (T.mk k6 n6 s6 (ers ks6)) = some r → ∀ (O : Heap) (tk : Nat), O X0 = some ⟨51, 1, true, [[.int .i64 i2]]⟩ → ACalls Go.Proofs.Tryd.prog 37 [.optr X0 0 0, .agg [.int .i64 k3, .int .i64 n3, .str s3, .imm q3 4 f3 (cellss ks3)], .agg [.int .i64 k4, .int .i64 n4, .str s4, .imm q4 4 f4 (cellss ks4)], .int .i64 i5, .agg [.int .i64 k6, .int .i64 n6, .str s6, .imm q6 4 f6 (cellss ks6)]] O tk (RetVZ HT O X0 tk r (fun r v o' tk' => ∃ r0', ∃ (c0 : Int) , r = (r0', (c0)) ∧ o' = ⟨51, 1, true, [[.int .i64 c0]]⟩ ∧ VT false tk tk' r0' v) (fun o' => o'.up = o'))) : ∀ (X0 : ID) (i2 : Int) (k3 : Int) (n3 : Int) (s3 : ByteArray) (q3 : Nat) (f3 : Bool) (ks3 : List LT) (k4 : Int) (n4 : Int) (s4 : ByteArray) (q4 : Nat) (f4 : Bool) (ks4 : List LT) (q5 : Nat) (f5 : Bool) (ks5 : List LT) {r : (Rz (T × (Int)))}, i_work_apply (n + 1) (i2) (T.mk k3 n3 s3 (ers ks3)) (T.mk k4 n4 s4 (ers ks4)) (ers ks5) = some r → ∀ (O : Heap) (tk : Nat), O X0 = some ⟨51, 1, true, [[.int .i64 i2]]⟩ → ACalls Go.Proofs.Tryd.prog 28 [.optr X0 0 0, .agg [.int .i64 k3, .int .i64 n3, .str s3, .imm q3 4 f3 (cellss ks3)], .agg [.int .i64 k4, .int .i64 n4, .str s4, .imm q4 4 f4 (cellss ks4)], .imm q5 4 f5 (cellss ks5)] O tk (RetVZ HT O X0 tk r (fun r v o' tk' => ∃ r0', ∃ (c0 : Int) , r = (r0', (c0)) ∧ o' = ⟨51, 1, true, [[.int .i64 c0]]⟩ ∧ VT false tk tk' r0' v) (fun o' => o'.up = o')) := by
 intro X0 i2 k3 n3 s3 q3 f3 ks3 k4 n4 s4 q4 f4 ks4 q5 f5 ks5 r hM O tk hX0
 rw [i_work_apply] at hM
 refine acalls_of_run Go.Proofs.Tryd.func28 rfl rfl [X0] [⟨51, 1, true, [[.int .i64 i2]]⟩] (Bor.one hX0 rfl) [(0, .optr (.bor 0) 0 0), (1, .agg [.int .i64 k3, .int .i64 n3, .str s3, .imm q3 4 f3 (cellss ks3)]), (2, .agg [.int .i64 k4, .int .i64 n4, .str s4, .imm q4 4 f4 (cellss ks4)]), (3, .imm q5 4 f5 (cellss ks5))] (.cons (.bor 0 _ _ _ rfl) (.cons (.agg _) (.cons (.agg _) (.cons (entS rfl) (.nil _))))) (leb rfl) (by intro y h; simp only [List.mem_cons, List.not_mem_nil, or_false] at h; rcases h with rfl <;> simp [tch, tch0]) (fun S0 hO htk hfz => ?_)
 refine run_sr ?_
 refine run_op rfl (box_step (d := 5) rfl rfl rfl rfl rfl) rfl (ltb rfl) ?_
 refine run_op rfl (box_step (d := 6) rfl rfl rfl rfl rfl) rfl (ltb rfl) ?_
 refine run_op rfl (alloc_step (d := 8) hG rfl rfl rfl) rfl (ltb rfl) ?_
 refine run_ops_nil ?_
 refine run_seq ?_
 refine run_sr ?_
 refine mvL rfl rfl rfl rfl (ltb rfl) ?_
 refine run_pu rfl (lenImm_step hG rfl rfl rfl rfl (tlen _)) rfl (ltb rfl) ?_
 refine mvL rfl rfl rfl rfl (ltb rfl) ?_
 refine run_ops_nil ?_
 refine run_block ?_
 refine run_rounds (fun m σ => ∃ (i6 : Int) (i7 : Int) (i8 : Int) (i9 : Int) (t10 : ByteArray) (q11 : Nat) (f11 : Bool) (ks11 : List LT) (i12 : Int) (i13 : Int) (t14 : ByteArray) (q15 : Nat) (f15 : Bool) (ks15 : List LT) (tki_work_apply_L1 : Nat), tk ≤ tki_work_apply_L1 ∧ i_work_apply_L1 (i_work_put n) (ers ks5) m i6 i7 i8 i9 t10 (ers ks11) i12 i13 t14 (ers ks15) = some r ∧ σ = ⟨[(0, .optr (.bor 0) 0 0), (5, .optr (.loc 5) 0 0), (6, .optr (.loc 6) 0 0), (8, .optr (.loc 8) 0 0), (11, .imm q5 4 f5 (cellss ks5)), (12, .int .i64 (((ers ks5)).length : Int)), (13, .int .i64 i6)], [(8, ⟨29, 4, true, [[.int .i64 0, .int .i64 0, .str ⟨#[]⟩, .imm 0 4 true []]]⟩), (6, ⟨29, 4, true, [[.int .i64 i12, .int .i64 i13, .str t14, .imm q15 4 f15 (cellss ks15)]]⟩), (5, ⟨29, 4, true, [[.int .i64 i8, .int .i64 i9, .str t10, .imm q11 4 f11 (cellss ks11)]]⟩)], [⟨51, 1, true, [[.int .i64 i7]]⟩], O, tki_work_apply_L1⟩) n (Sub.env [(0, .optr (.bor 0) 0 0), (5, .optr (.loc 5) 0 0), (6, .optr (.loc 6) 0 0), (8, .optr (.loc 8) 0 0), (11, .imm q5 4 f5 (cellss ks5)), (12, .int .i64 (((ers ks5)).length : Int)), (13, .int .i64 0)] ⟨rfl, rfl, rfl, rfl, rfl, rfl, rfl, trivial⟩) ⟨0, i2, k3, n3, s3, q3, f3, ks3, k4, n4, s4, q4, f4, ks4, tk, Nat.le_refl _, hM, rfl⟩ (fun m σ hI => ?_)
 clear hM
 obtain ⟨i6, i7, i8, i9, t10, q11, f11, ks11, i12, i13, t14, q15, f15, ks15, tki_work_apply_L1, hle52, hM, rfl⟩ := hI
 obtain _ | m := m
 ·exact absurd hM (by rw [i_work_apply_L1]; exact fun h => by cases h)
 rw [i_work_apply_L1] at hM
 refine run_sr ?_
 refine run_bin rfl rfl rfl rfl rfl rfl rfl (ltb rfl) ?_
 refine run_ops_nil ?_
 refine run_seq ?_
 refine run_ifd rfl rfl (fun hb16 => ?_) (fun hb16 => ?_)
 ·replace hM := ite_t hb16 hM
  refine run_skip ?_
  refine run_seq ?_
  refine run_block ?_
  refine run_sr ?_
  obtain ⟨y17, hy18, hM⟩ := bind_t hM
  obtain ⟨k19, n19, s19, q19, f19, ks19, rfl, hc20, hi21⟩ := tidx (ks := ks5) hy18
  refine run_pu rfl (indexImm_step hG rfl rfl rfl hi21 rfl rfl rfl rfl hc20) rfl (ltb rfl) ?_
  refine run_ld hG rfl rfl rfl rfl rfl (ltb rfl) ?_
  refine run_op rfl (alloc_step (d := 10) hG rfl rfl rfl) rfl (ltb rfl) ?_
  refine run_op0 rfl (store_step hG rfl rfl rfl rfl rfl rfl rfl rfl) rfl ?_
  refine run_ops_nil ?_
  refine run_seq ?_
  refine run_sr ?_
  refine run_pu rfl (fieldAddr_step hG rfl rfl rfl rfl rfl) rfl (ltb rfl) ?_
  refine run_ld hG rfl rfl rfl rfl rfl (ltb rfl) ?_
  refine run_bin rfl rfl rfl rfl rfl rfl rfl (ltb rfl) ?_
  refine mvL rfl rfl rfl rfl (ltb rfl) ?_
  refine run_splitb (i := 20) rfl (fun hb22 => ?_) (fun hb22 => ?_)
  ·replace hM := ite_t hb22 hM
   refine run_off (on_of rfl rfl rfl rfl) rfl (ltb rfl) ?_
   refine run_off (on_of rfl rfl rfl rfl) rfl (ltb rfl) ?_
   refine run_off (on_of rfl rfl rfl rfl) rfl (ltb rfl) ?_
   refine run_pu rfl (pick_step rfl rfl rfl) rfl (ltb rfl) ?_
   refine run_ops_nil ?_
   refine run_if rfl rfl (fun _ => ?_) (fun h => by cases h)
   refine run_region ?_
   obtain rfl := some_t hM
   exact run_call rfl rfl rfl (ltb rfl) rfl rfl rfl (fun _ h => absurd h List.not_mem_nil) (i_stop_ok 12 0 _ _) (callK_retS (run_pan_at (⟨⟨51, 1, true, [[.int .i64 i7]]⟩, rfl, (show tk ≤ tki_work_apply_L1 by omega), rfl, rfl⟩)))
  ·replace hM := ite_f hb22 hM
   refine run_puG (on_of rfl rfl rfl rfl) (fieldAddr_step hG rfl rfl rfl rfl rfl) rfl (ltb rfl) ?_
   refine run_rdG (on_of rfl rfl rfl rfl) (aload_rd hG rfl rfl rfl (by first | (simp [ldok]; done) | exact List.not_mem_nil | trivial)) rfl (ltb rfl) ?_
   refine run_puG (on_of rfl rfl rfl rfl) (abin_step rfl rfl rfl rfl (fun _ h => by cases h)) rfl (ltb rfl) ?_
   refine run_pu rfl (pick_step rfl rfl rfl) rfl (ltb rfl) ?_
   refine run_ops_nil ?_
   refine run_ifb rfl rfl (fun hb23 => ?_) (fun hb23 => ?_)
   ·replace hM := ite_t hb23 hM
    refine run_region ?_
    obtain rfl := some_t hM
    exact run_call rfl rfl rfl (ltb rfl) rfl rfl rfl (fun _ h => absurd h List.not_mem_nil) (i_stop_ok 12 0 _ _) (callK_retS (run_pan_at (⟨⟨51, 1, true, [[.int .i64 i7]]⟩, rfl, (show tk ≤ tki_work_apply_L1 by omega), rfl, rfl⟩)))
   ·replace hM := ite_f hb23 hM
    refine run_skip ?_
    refine run_seq ?_
    refine run_sr ?_
    refine mvL rfl rfl rfl rfl (ltb rfl) ?_
    refine run_pu rfl (nilCheck_step rfl rfl ⟨_, rfl⟩) rfl (ltb rfl) ?_
    refine run_pu rfl (fieldAddr_step hG rfl rfl rfl rfl rfl) rfl (ltb rfl) ?_
    refine run_ld hG rfl rfl rfl rfl rfl (ltb rfl) ?_
    refine run_bin rfl rfl rfl rfl rfl rfl rfl (ltb rfl) ?_
    refine run_pu rfl (nilCheck_step rfl rfl ⟨_, rfl⟩) rfl (ltb rfl) ?_
    refine run_pu rfl (fieldAddr_step hG rfl rfl rfl rfl rfl) rfl (ltb rfl) ?_
    refine run_op0 rfl (store_step hG rfl rfl rfl rfl rfl rfl rfl rfl) rfl ?_
    refine run_ops_nil ?_
    refine run_sub_code (σ' := ⟨[(0, .optr (.bor 0) 0 0), (5, .optr (.loc 5) 0 0), (6, .optr (.loc 6) 0 0), (8, .optr (.loc 8) 0 0), (11, .imm q5 4 f5 (cellss ks5)), (12, .int .i64 (((ers ks5)).length : Int)), (13, .int .i64 i6), (10, .optr (.loc 10) 0 0)], [(10, ⟨29, 4, true, [[.int .i64 k19, .int .i64 n19, .str s19, .imm q19 4 f19 (cellss ks19)]]⟩), (8, ⟨29, 4, true, [[.int .i64 0, .int .i64 0, .str ⟨#[]⟩, .imm 0 4 true []]]⟩), (6, ⟨29, 4, true, [[.int .i64 i12, .int .i64 i13, .str t14, .imm q15 4 f15 (cellss ks15)]]⟩), (5, ⟨29, 4, true, [[.int .i64 i8, .int .i64 i9, .str t10, .imm q11 4 f11 (cellss ks11)]]⟩)], [⟨51, 1, true, [[.int .i64 (IntKind.i64.wrap (i7 + 1))]]⟩], O, tki_work_apply_L1⟩) (Sub.env _ ⟨rfl, rfl, rfl, rfl, rfl, rfl, rfl, rfl, trivial⟩) ?_
    refine run_sr ?_
    refine mvL rfl rfl rfl rfl (ltb rfl) ?_
    refine run_pu rfl (nilCheck_step rfl rfl ⟨_, rfl⟩) rfl (ltb rfl) ?_
    refine run_pu rfl (fieldAddr_step hG rfl rfl rfl rfl rfl) rfl (ltb rfl) ?_
    refine run_ld hG rfl rfl rfl rfl rfl (ltb rfl) ?_
    refine run_bin rfl rfl rfl rfl rfl rfl rfl (ltb rfl) ?_
    refine run_ops_nil ?_
    refine run_ifd rfl rfl (fun hb24 => ?_) (fun hb24 => ?_)
    ·replace hM := ite_t hb24 hM
     refine run_region ?_
     obtain rfl := some_t hM
     exact run_call rfl rfl rfl (ltb rfl) rfl rfl rfl (fun _ h => absurd h List.not_mem_nil) (i_stop_ok 17 0 _ _) (callK_retS (run_pan_at (⟨⟨51, 1, true, [[.int .i64 (IntKind.i64.wrap (i7 + 1))]]⟩, rfl, (show tk ≤ tki_work_apply_L1 by omega), rfl, rfl⟩)))
    ·replace hM := ite_f hb24 hM
     refine run_skip ?_
     refine run_seq ?_
     refine run_draw [.loc 5, .bor 0] (n := 12) mixed rfl (by intro x hx; simp only [List.mem_cons, List.not_mem_nil, or_false] at hx; rcases hx with rfl | rfl <;> rfl) ?_
     refine AAny.take (i := 0) rfl (by kernel_rfl) (by kernel_rfl) (by kernel_rfl) rfl rfl (ltb rfl) ((move_step (.inl rfl) rfl).rd _) ?_
     refine AAny.take (i := 1) rfl (by kernel_rfl) (by kernel_rfl) (by kernel_rfl) rfl rfl (ltb rfl) (aload_rd hG rfl rfl rfl (by first | (simp [ldok]; done) | exact List.not_mem_nil | trivial)) ?_
     refine AAny.take (i := 2) rfl (by kernel_rfl) (by kernel_rfl) (by kernel_rfl) rfl rfl (ltb rfl) ((fieldAddr_step hG rfl rfl rfl rfl rfl).rd _) ?_
     refine AAny.take (i := 3) rfl (by kernel_rfl) (by kernel_rfl) (by kernel_rfl) rfl rfl (ltb rfl) (aload_rd hG rfl rfl rfl (by first | (simp [ldok]; done) | exact List.not_mem_nil | trivial)) ?_
     obtain ⟨y25, hy26, hM⟩ := bind_t hM
     obtain ⟨k27, n27, s27, q27, f27, ks27, rfl, hc28, hi29⟩ := tidx (ks := ks15) hy26
     refine AAny.take (i := 4) rfl (by kernel_rfl) (by kernel_rfl) (by kernel_rfl) rfl rfl (ltb rfl) ((indexImm_step hG rfl rfl rfl hi29 rfl rfl rfl rfl hc28).rd _) ?_
     refine AAny.take (i := 5) rfl (by kernel_rfl) (by kernel_rfl) (by kernel_rfl) rfl rfl (ltb rfl) (aload_rd hG rfl rfl rfl (by first | (simp [ldok]; done) | exact List.not_mem_nil | trivial)) ?_
     refine AAny.take (i := 6) rfl (by kernel_rfl) (by kernel_rfl) (by kernel_rfl) rfl rfl (ltb rfl) ((fieldAddr_step hG rfl rfl rfl rfl rfl).rd _) ?_
     refine AAny.one (i := 7) (by kernel_rfl) (AOp.rd rfl rfl rfl (ltb rfl) (aload_rd hG rfl rfl rfl (by first | (simp [ldok]; done) | exact List.not_mem_nil | trivial)) ?_)
     obtain ⟨y30, hy31, hM⟩ := bind_t hM
     obtain ⟨k32, n32, s32, q32, f32, ks32, rfl, hc33, hi34⟩ := tidx (ks := ks11) hy31
     refine AAny.take (i := 8) rfl (by kernel_rfl) (by kernel_rfl) (by kernel_rfl) rfl rfl (ltb rfl) ((indexImm_step hG rfl rfl rfl hi34 rfl rfl rfl rfl hc33).rd _) ?_
     refine AAny.take (i := 9) rfl (by kernel_rfl) (by kernel_rfl) (by kernel_rfl) rfl rfl (ltb rfl) (aload_rd hG rfl rfl rfl (by first | (simp [ldok]; done) | exact List.not_mem_nil | trivial)) ?_
     obtain ⟨z40, hg36, hM⟩ := zb_t hM
     refine AAny.one (i := 10) (by kernel_rfl) (AOp.call rfl rfl rfl rfl (ltb rfl) rfl rfl rfl (fun _ h => absurd h List.not_mem_nil) (by intro x hx; have hx : x ∈ [ID.bor 0] := hx; simp only [List.mem_cons, List.not_mem_nil, or_false] at hx; subst hx; simp) (ih_i_work_put (.bor 0) (IntKind.i64.wrap (i7 + 1)) k19 n19 s19 q19 f19 ks19 k27 n27 s27 q27 f27 ks27 0 k32 n32 s32 q32 f32 ks32 hg36 _ _ rfl) (callK_retVZ_bor (k := 0) rfl (fun a v o' tk' h => by obtain ⟨_, _, rfl, rfl, _⟩ := h; rfl) (fun o' h => h) (fun r35 v o'46 tk37 hz43 (hle38 : tki_work_apply_L1 ≤ tk37) h39 => ?_) (fun c p o' tk37 hz (_ : tki_work_apply_L1 ≤ tk37) ho => by subst hz; obtain rfl := bd_stop hM; exact run_pan_at (⟨o', rfl, (show tk ≤ tk37 by omega), rfl, ho⟩))))
     subst hz43
     replace hM := bd_ok hM
     obtain ⟨ra45, c44, rfl, rfl, ⟨k41, n41, s41, q41, f41, ks41, rfl, rfl, hf42⟩⟩ := h39
     refine AAny.one (i := 11) (by kernel_rfl) (AOp.step0 rfl rfl rfl (store_step hG rfl rfl rfl rfl rfl rfl rfl rfl) (by intro x hx; have hx : x ∈ [ID.loc 5] := hx; simp only [List.mem_cons, List.not_mem_nil, or_false] at hx; subst hx; simp) ?_)
     refine AAny.done (by kernel_rfl) ?_
     refine run_sub_code (σ' := ⟨[(0, .optr (.bor 0) 0 0), (5, .optr (.loc 5) 0 0), (6, .optr (.loc 6) 0 0), (8, .optr (.loc 8) 0 0), (11, .imm q5 4 f5 (cellss ks5)), (12, .int .i64 (((ers ks5)).length : Int)), (13, .int .i64 i6)], [(8, ⟨29, 4, true, [[.int .i64 0, .int .i64 0, .str ⟨#[]⟩, .imm 0 4 true []]]⟩), (6, ⟨29, 4, true, [[.int .i64 i12, .int .i64 i13, .str t14, .imm q15 4 f15 (cellss ks15)]]⟩), (5, ⟨29, 4, true, [[.int .i64 k41, .int .i64 n41, .str s41, .imm q41 4 f41 (cellss ks41)]]⟩)], [⟨51, 1, true, [[.int .i64 c44]]⟩], O, tk37⟩) (Sub.trans (Sub.drop (k := 10) rfl) (Sub.env _ ⟨rfl, rfl, rfl, rfl, rfl, rfl, rfl, trivial⟩)) ?_
     refine run_region ?_
     refine run_pu rfl (fieldAddr_step hG rfl rfl rfl rfl rfl) rfl (ltb rfl) ?_
     refine run_ld hG rfl rfl rfl rfl rfl (ltb rfl) ?_
     obtain ⟨y47, hy48, hM⟩ := bind_t hM
     obtain ⟨k49, n49, s49, q49, f49, ks49, rfl, hc50, hi51⟩ := tidx (ks := ks15) hy48
     refine run_pu rfl (indexImm_step hG rfl rfl rfl hi51 rfl rfl rfl rfl hc50) rfl (ltb rfl) ?_
     refine run_ld hG rfl rfl rfl rfl rfl (ltb rfl) ?_
     refine run_op0 rfl (store_step hG rfl rfl rfl rfl rfl rfl rfl rfl) rfl ?_
     refine run_ops_nil ?_
     refine run_blk ?_
     refine run_region ?_
     refine run_bin rfl rfl rfl rfl rfl rfl rfl (ltb rfl) ?_
     refine mvL rfl rfl rfl rfl (ltb rfl) ?_
     refine run_ops_nil ?_
     exact run_loop_end ⟨m, _, Nat.lt_succ_self _, ⟨(IntKind.i64.wrap (i6 + 1)), c44, k41, n41, s41, q41, f41, ks41, k49, n49, s49, q49, f49, ks49, tk37, (show tk ≤ tk37 by omega), hM, rfl⟩, Sub.env [(0, .optr (.bor 0) 0 0), (5, .optr (.loc 5) 0 0), (6, .optr (.loc 6) 0 0), (8, .optr (.loc 8) 0 0), (11, .imm q5 4 f5 (cellss ks5)), (12, .int .i64 (((ers ks5)).length : Int)), (13, .int .i64 (IntKind.i64.wrap (i6 + 1)))] ⟨rfl, rfl, rfl, rfl, rfl, rfl, rfl, trivial⟩⟩
 ·replace hM := ite_f hb16 hM
  refine run_exit_to rfl ?_
  refine run_sr ?_
  refine run_ld hG rfl rfl rfl rfl rfl (ltb rfl) ?_
  refine run_op0 rfl (store_step hG rfl rfl rfl rfl rfl rfl rfl rfl) rfl ?_
  refine run_ops_nil ?_
  refine run_ret_to ?_
  obtain rfl := some_t hM
  refine fin_x hG rfl rfl rfl (v' := .agg [.int .i64 i8, .int .i64 i9, .str t10, .imm q11 4 f11 (cellss ks11)]) (by rfl) ⟨⟨51, 1, true, [[.int .i64 i7]]⟩, rfl, (show tk ≤ tki_work_apply_L1 by omega), _, rfl, ⟨_, i7, rfl, rfl, ⟨i8, i9, t10, q11, f11, ks11, rfl, rfl, fun h => by cases h⟩⟩⟩

set_option maxHeartbeats 2000000 in
set_option maxRecDepth 100000 in
theorem i_work_put_st (n : Nat) (ih_i_work_apply : ∀ (X0 : ID) (i2 : Int) (k3 : Int) (n3 : Int) (s3 : ByteArray) (q3 : Nat) (f3 : Bool) (ks3 : List LT) (k4 : Int) (n4 : Int) (s4 : ByteArray) (q4 : Nat) (f4 : Bool) (ks4 : List LT) (q5 : Nat) (f5 : Bool) (ks5 : List LT) {r : (Rz (T × (Int)))}, i_work_apply n (i2) (T.mk k3 n3 s3 (ers ks3)) (T.mk k4 n4 s4 (ers ks4)) (ers ks5) = some r → ∀ (O : Heap) (tk : Nat), O X0 = some ⟨51, 1, true, [[.int .i64 i2]]⟩ → ACalls Go.Proofs.Tryd.prog 28 [.optr X0 0 0, .agg [.int .i64 k3, .int .i64 n3, .str s3, .imm q3 4 f3 (cellss ks3)], .agg [.int .i64 k4, .int .i64 n4, .str s4, .imm q4 4 f4 (cellss ks4)], .imm q5 4 f5 (cellss ks5)] O tk (RetVZ HT O X0 tk r (fun r v o' tk' => ∃ r0', ∃ (c0 : Int) , r = (r0', (c0)) ∧ o' = ⟨51, 1, true, [[.int .i64 c0]]⟩ ∧ VT false tk tk' r0' v) (fun o' => o'.up = o'))) (ih_i_work_put : ∀ (X0 : ID) (i2 : Int) (k3 : Int) (n3 : Int) (s3 : ByteArray) (q3 : Nat) (f3 : Bool) (ks3 : List LT) (k4 : Int) (n4 : Int) (s4 : ByteArray) (q4 : Nat) (f4 : Bool) (ks4 : List LT) (i5 : Int) (k6 : Int) (n6 : Int) (s6 : ByteArray) (q6 : Nat) (f6 : Bool) (ks6 : List LT) {r : (Rz (T × (Int)))}, i_work_put n (i2) (T.mk k3 n3 s3 (ers ks3)) (T.mk k4 n4 s4 (ers ks4)) i5 (T.mk k6 n6 s6 (ers ks6)) = some r → ∀ (O : Heap) (tk : Nat), O X0 = some ⟨51, 1, true, [[.int .i64 i2]]⟩ → ACalls Go.Proofs.Tryd.prog 37 [.optr X0 0 0, .agg [.int .i64 k3, .int .i64 n3, .str s3, .imm q3 4 f3 (cellss ks3)], .agg [.int .i64 k4, .int .i64 n4, .str s4, .imm q4 4 f4 (cellss ks4)], .int .i64 i5, .agg [.int .i64 k6, .int .i64 n6, .str s6, .imm q6 4 f6 (cellss ks6)]] O tk (RetVZ HT O X0 tk r (fun r v o' tk' => ∃ r0', ∃ (c0 : Int) , r = (r0', (c0)) ∧ o' = ⟨51, 1, true, [[.int .i64 c0]]⟩ ∧ VT false tk tk' r0' v) (fun o' => o'.up = o'))) : ∀ (X0 : ID) (i2 : Int) (k3 : Int) (n3 : Int) (s3 : ByteArray) (q3 : Nat) (f3 : Bool) (ks3 : List LT) (k4 : Int) (n4 : Int) (s4 : ByteArray) (q4 : Nat) (f4 : Bool) (ks4 : List LT) (i5 : Int) (k6 : Int) (n6 : Int) (s6 : ByteArray) (q6 : Nat) (f6 : Bool) (ks6 : List LT) {r : (Rz (T × (Int)))}, i_work_put (n + 1) (i2) (T.mk k3 n3 s3 (ers ks3)) (T.mk k4 n4 s4 (ers ks4)) i5 (T.mk k6 n6 s6 (ers ks6)) = some r → ∀ (O : Heap) (tk : Nat), O X0 = some ⟨51, 1, true, [[.int .i64 i2]]⟩ → ACalls Go.Proofs.Tryd.prog 37 [.optr X0 0 0, .agg [.int .i64 k3, .int .i64 n3, .str s3, .imm q3 4 f3 (cellss ks3)], .agg [.int .i64 k4, .int .i64 n4, .str s4, .imm q4 4 f4 (cellss ks4)], .int .i64 i5, .agg [.int .i64 k6, .int .i64 n6, .str s6, .imm q6 4 f6 (cellss ks6)]] O tk (RetVZ HT O X0 tk r (fun r v o' tk' => ∃ r0', ∃ (c0 : Int) , r = (r0', (c0)) ∧ o' = ⟨51, 1, true, [[.int .i64 c0]]⟩ ∧ VT false tk tk' r0' v) (fun o' => o'.up = o')) := by
 intro X0 i2 k3 n3 s3 q3 f3 ks3 k4 n4 s4 q4 f4 ks4 i5 k6 n6 s6 q6 f6 ks6 r hM O tk hX0
 rw [i_work_put] at hM
 refine acalls_of_run Go.Proofs.Tryd.func37 rfl rfl [X0] [⟨51, 1, true, [[.int .i64 i2]]⟩] (Bor.one hX0 rfl) [(0, .optr (.bor 0) 0 0), (1, .agg [.int .i64 k3, .int .i64 n3, .str s3, .imm q3 4 f3 (cellss ks3)]), (2, .agg [.int .i64 k4, .int .i64 n4, .str s4, .imm q4 4 f4 (cellss ks4)]), (3, .int .i64 i5), (4, .agg [.int .i64 k6, .int .i64 n6, .str s6, .imm q6 4 f6 (cellss ks6)])] (.cons (.bor 0 _ _ _ rfl) (.cons (.agg _) (.cons (.agg _) (.cons (entS rfl) (.cons (.agg _) (.nil _)))))) (leb rfl) (by intro y h; simp only [List.mem_cons, List.not_mem_nil, or_false] at h; rcases h with rfl <;> simp [tch, tch0]) (fun S0 hO htk hfz => ?_)
 refine run_sr ?_
 refine run_op rfl (box_step (d := 6) rfl rfl rfl rfl rfl) rfl (ltb rfl) ?_
 refine run_op rfl (box_step (d := 7) rfl rfl rfl rfl rfl) rfl (ltb rfl) ?_
 refine run_op rfl (box_step (d := 9) rfl rfl rfl rfl rfl) rfl (ltb rfl) ?_
 refine run_op rfl (alloc_step (d := 10) hG rfl rfl rfl) rfl (ltb rfl) ?_
 refine run_ops_nil ?_
 refine run_sr ?_
 refine run_op rfl (buildSlice_step (d := 14) hG rfl rfl rfl rfl rfl (by rfl) (by rfl) (by rfl) (by decide)) rfl (ltb rfl) ?_
 refine mvR rfl rfl rfl rfl (ltb rfl) ?_
 refine run_ops_nil ?_
 refine run_seq ?_
 refine run_sr ?_
 refine run_pu rfl (fieldAddr_step hG rfl rfl rfl rfl rfl) rfl (ltb rfl) ?_
 refine run_ld hG rfl rfl rfl rfl rfl (ltb rfl) ?_
 refine run_pu rfl (lenImm_step hG rfl rfl rfl rfl (tlen _)) rfl (ltb rfl) ?_
 refine mvL rfl rfl rfl rfl (ltb rfl) ?_
 refine run_ops_nil ?_
 refine run_block ?_
 refine run_rounds (fun m σ => ∃ (i7 : Int) (i8 : Int) (ks9 : List LT) (tki_work_put_L1 : Nat), tk ≤ tki_work_put_L1 ∧ i_work_put_L1 (i_work_apply n) (i_work_put n) n (T.mk k3 n3 s3 (ers ks3)) (T.mk k4 n4 s4 (ers ks4)) i5 (T.mk k6 n6 s6 (ers ks6)) m i7 i8 (ers ks9) = some r ∧ σ = ⟨[(0, .optr (.bor 0) 0 0), (3, .int .i64 i5), (6, .optr (.loc 6) 0 0), (7, .optr (.loc 7) 0 0), (9, .optr (.loc 9) 0 0), (10, .optr (.loc 10) 0 0), (11, .osl (.loc 14)), (16, .imm q6 4 f6 (cellss ks6)), (17, .int .i64 (((ers ks6)).length : Int)), (18, .int .i64 i7)], [(14, ⟨29, 4, false, cellss ks9⟩), (10, ⟨29, 4, true, [[.int .i64 0, .int .i64 0, .str ⟨#[]⟩, .imm 0 4 true []]]⟩), (9, ⟨29, 4, true, [[.int .i64 k6, .int .i64 n6, .str s6, .imm q6 4 f6 (cellss ks6)]]⟩), (7, ⟨29, 4, true, [[.int .i64 k4, .int .i64 n4, .str s4, .imm q4 4 f4 (cellss ks4)]]⟩), (6, ⟨29, 4, true, [[.int .i64 k3, .int .i64 n3, .str s3, .imm q3 4 f3 (cellss ks3)]]⟩)], [⟨51, 1, true, [[.int .i64 i8]]⟩], O, tki_work_put_L1⟩) n (Sub.env [(0, .optr (.bor 0) 0 0), (3, .int .i64 i5), (6, .optr (.loc 6) 0 0), (7, .optr (.loc 7) 0 0), (9, .optr (.loc 9) 0 0), (10, .optr (.loc 10) 0 0), (11, .osl (.loc 14)), (16, .imm q6 4 f6 (cellss ks6)), (17, .int .i64 (((ers ks6)).length : Int)), (18, .int .i64 0)] ⟨rfl, rfl, rfl, rfl, rfl, rfl, rfl, rfl, rfl, rfl, trivial⟩) ⟨0, i2, [], tk, Nat.le_refl _, hM, rfl⟩ (fun m σ hI => ?_)
 clear hM
 obtain ⟨i7, i8, ks9, tki_work_put_L1, hle98, hM, rfl⟩ := hI
 obtain _ | m := m
 ·exact absurd hM (by rw [i_work_put_L1]; exact fun h => by cases h)
 rw [i_work_put_L1] at hM
 refine run_sr ?_
 refine run_bin rfl rfl rfl rfl rfl rfl rfl (ltb rfl) ?_
 refine run_ops_nil ?_
 refine run_seq ?_
 refine run_ifd rfl rfl (fun hb10 => ?_) (fun hb10 => ?_)
 ·replace hM := ite_t hb10 hM
  refine run_skip ?_
  refine run_seq ?_
  refine run_block ?_
  refine run_sr ?_
  refine mvL rfl rfl rfl rfl (ltb rfl) ?_
  obtain ⟨y11, hy12, hM⟩ := bind_t hM
  obtain ⟨k13, n13, s13, q13, f13, ks13, rfl, hc14, hi15⟩ := tidx (ks := ks6) hy12
  refine run_pu rfl (indexImm_step hG rfl rfl rfl hi15 rfl rfl rfl rfl hc14) rfl (ltb rfl) ?_
  refine run_ld hG rfl rfl rfl rfl rfl (ltb rfl) ?_
  refine run_op rfl (alloc_step (d := 13) hG rfl rfl rfl) rfl (ltb rfl) ?_
  refine mvR rfl rfl rfl rfl (ltb rfl) ?_
  refine run_op0 rfl (store_step hG rfl rfl rfl rfl rfl rfl rfl rfl) rfl ?_
  refine run_ops_nil ?_
  refine run_draw [.loc 9, .bor 0, .loc 14] (n := 13) mixed rfl (by intro x hx; simp only [List.mem_cons, List.not_mem_nil, or_false] at hx; rcases hx with rfl | rfl | rfl <;> rfl) ?_
  refine AAny.take (i := 0) rfl (by kernel_rfl) (by kernel_rfl) (by kernel_rfl) rfl rfl (ltb rfl) ((move_step (.inl rfl) rfl).rd _) ?_
  refine AAny.take (i := 1) rfl (by kernel_rfl) (by kernel_rfl) (by kernel_rfl) rfl rfl (ltb rfl) ((move_step (.inl rfl) rfl).rd _) ?_
  refine AAny.take (i := 2) rfl (by kernel_rfl) (by kernel_rfl) (by kernel_rfl) rfl rfl (ltb rfl) (aload_rd hG rfl rfl rfl (by first | (simp [ldok]; done) | exact List.not_mem_nil | trivial)) ?_
  refine AAny.take (i := 3) rfl (by kernel_rfl) (by kernel_rfl) (by kernel_rfl) rfl rfl (ltb rfl) (aload_rd hG rfl rfl rfl (by first | (simp [ldok]; done) | exact List.not_mem_nil | trivial)) ?_
  refine AAny.take (i := 4) rfl (by kernel_rfl) (by kernel_rfl) (by kernel_rfl) rfl rfl (ltb rfl) ((move_step (.inl rfl) rfl).rd _) ?_
  refine AAny.take (i := 5) rfl (by kernel_rfl) (by kernel_rfl) (by kernel_rfl) rfl rfl (ltb rfl) ((move_step (.inl rfl) rfl).rd _) ?_
  refine AAny.take (i := 8) rfl (by kernel_rfl) (by kernel_rfl) (by kernel_rfl) rfl rfl (ltb rfl) (aload_rd hG rfl rfl rfl (by first | (simp [ldok]; done) | exact List.not_mem_nil | trivial)) ?_
  obtain ⟨r16, hg17, hM⟩ := bind_t hM
  refine AAny.one (i := 6) (by kernel_rfl) (AOp.call rfl rfl rfl rfl (ltb rfl) rfl rfl rfl (fun _ h => absurd h List.not_mem_nil) (by intro x hx; have hx : x ∈ [ID.loc 9] := hx; simp only [List.mem_cons, List.not_mem_nil, or_false] at hx; subst hx; simp) (i_Tree_under_ok (.loc 9) k6 n6 s6 q6 f6 ks6 i7 hg17 _ _ rfl) (callK_retX (fun v tk18 (hle19 : tki_work_put_L1 ≤ tk18) h20 => ?_)))
  subst h20
  refine AAny.take (i := 7) rfl (by kernel_rfl) (by kernel_rfl) (by kernel_rfl) rfl rfl (ltb rfl) ((abin_step rfl rfl rfl rfl (fun _ h => by cases h)).rd _) ?_
  obtain ⟨z28, hg24, hM⟩ := zb_t hM
  refine AAny.one (i := 9) (by kernel_rfl) (AOp.call rfl rfl rfl rfl (ltb rfl) rfl rfl rfl (fun _ h => absurd h List.not_mem_nil) (by intro x hx; have hx : x ∈ [ID.bor 0] := hx; simp only [List.mem_cons, List.not_mem_nil, or_false] at hx; subst hx; simp) (ih_i_work_put (.bor 0) i8 k3 n3 s3 q3 f3 ks3 k4 n4 s4 q4 f4 ks4 (IntKind.i64.wrap (i5 + r16)) k13 n13 s13 q13 f13 ks13 hg24 _ _ rfl) (callK_retVZ_bor (k := 0) rfl (fun a v o' tk' h => by obtain ⟨_, _, rfl, rfl, _⟩ := h; rfl) (fun o' h => h) (fun r23 v o'34 tk25 hz31 (hle26 : tk18 ≤ tk25) h27 => ?_) (fun c p o' tk25 hz (_ : tk18 ≤ tk25) ho => by subst hz; obtain rfl := bd_stop hM; exact run_pan_at (⟨o', rfl, (show tk ≤ tk25 by omega), rfl, ho⟩))))
  subst hz31
  replace hM := bd_ok hM
  obtain ⟨ra33, c32, rfl, rfl, ⟨k29, n29, s29, q29, f29, ks29, rfl, rfl, hf30⟩⟩ := h27
  refine AAny.one (i := 10) (by kernel_rfl) (AOp.step rfl rfl rfl (ltb rfl) (buildSlice_step (d := 33) hG rfl rfl rfl rfl rfl (by rfl) (by rfl) (by rfl) (by decide)) (fun _ h => absurd h List.not_mem_nil) ?_)
  obtain ⟨hc35, hM⟩ := chk_t hM
  try rw [show ((ers ks9) ++ [(T.mk k29 n29 s29 (ers ks29))] : List T) = (ers (ks9 ++ [LT.mk k29 n29 s29 q29 f29 ks29])) from ers_app ks9 [LT.mk k29 n29 s29 q29 f29 ks29]] at hM
  refine AAny.one (i := 11) (by kernel_rfl) (AOp.step rfl rfl rfl (ltb rfl) (appendM_step hG rfl rfl rfl rfl rfl rfl rfl rfl rfl rfl rfl (cellss_sz ([LT.mk k29 n29 s29 q29 f29 ks29])) (tlen ks9) (tlen ([LT.mk k29 n29 s29 q29 f29 ks29])) hc35 (by decide) (cellss_app _ _)) (by intro x hx; simp only [List.mem_cons, List.not_mem_nil, or_false] at hx; subst hx; simp) ?_)
  refine AAny.take (i := 12) rfl (by kernel_rfl) (by kernel_rfl) (by kernel_rfl) rfl rfl (ltb rfl) ((move_step (.inr rfl) rfl).rd _) ?_
  refine AAny.done (by kernel_rfl) ?_
  refine run_blk ?_
  refine run_sub_code (σ' := ⟨[(0, .optr (.bor 0) 0 0), (3, .int .i64 i5), (6, .optr (.loc 6) 0 0), (7, .optr (.loc 7) 0 0), (9, .optr (.loc 9) 0 0), (10, .optr (.loc 10) 0 0), (11, .osl (.loc 14)), (16, .imm q6 4 f6 (cellss ks6)), (17, .int .i64 (((ers ks6)).length : Int)), (18, .int .i64 i7)], [(14, ⟨29, 4, false, cellss (ks9 ++ [LT.mk k29 n29 s29 q29 f29 ks29])⟩), (10, ⟨29, 4, true, [[.int .i64 0, .int .i64 0, .str ⟨#[]⟩, .imm 0 4 true []]]⟩), (9, ⟨29, 4, true, [[.int .i64 k6, .int .i64 n6, .str s6, .imm q6 4 f6 (cellss ks6)]]⟩), (7, ⟨29, 4, true, [[.int .i64 k4, .int .i64 n4, .str s4, .imm q4 4 f4 (cellss ks4)]]⟩), (6, ⟨29, 4, true, [[.int .i64 k3, .int .i64 n3, .str s3, .imm q3 4 f3 (cellss ks3)]]⟩)], [⟨51, 1, true, [[.int .i64 c32]]⟩], O, tk25⟩) (Sub.trans (Sub.drop (k := 33) rfl) (Sub.trans (Sub.drop (k := 13) rfl) (Sub.env _ ⟨rfl, rfl, rfl, rfl, rfl, rfl, rfl, rfl, rfl, rfl, trivial⟩))) ?_
  refine run_region ?_
  refine run_bin rfl rfl rfl rfl rfl rfl rfl (ltb rfl) ?_
  refine mvL rfl rfl rfl rfl (ltb rfl) ?_
  refine run_ops_nil ?_
  exact run_loop_end ⟨m, _, Nat.lt_succ_self _, ⟨(IntKind.i64.wrap (i7 + 1)), c32, (ks9 ++ [LT.mk k29 n29 s29 q29 f29 ks29]), tk25, (show tk ≤ tk25 by omega), hM, rfl⟩, Sub.env [(0, .optr (.bor 0) 0 0), (3, .int .i64 i5), (6, .optr (.loc 6) 0 0), (7, .optr (.loc 7) 0 0), (9, .optr (.loc 9) 0 0), (10, .optr (.loc 10) 0 0), (11, .osl (.loc 14)), (16, .imm q6 4 f6 (cellss ks6)), (17, .int .i64 (((ers ks6)).length : Int)), (18, .int .i64 (IntKind.i64.wrap (i7 + 1)))] ⟨rfl, rfl, rfl, rfl, rfl, rfl, rfl, rfl, rfl, rfl, trivial⟩⟩
 ·replace hM := ite_f hb10 hM
  refine run_exit_to rfl ?_
  refine run_seq ?_
  refine run_seq ?_
  obtain ⟨j36, hj97, hM⟩ := jn_t hM
  refine run_cutL [.code _, .code _] (fun σ' => ∃ (tkj36 : Nat), tki_work_put_L1 ≤ tkj36 ∧ j36 = some r ∧ Sub ⟨Go.Proofs.Tryd.prog, S0, Go.Proofs.Tryd.f37.ntmps, [X0], fun _ => False, []⟩ σ' ⟨[(3, .int .i64 i5), (9, .optr (.loc 9) 0 0), (10, .optr (.loc 10) 0 0), (11, .osl (.loc 14))], [(14, ⟨29, 4, false, cellss ks9⟩), (10, ⟨29, 4, true, [[.int .i64 0, .int .i64 0, .str ⟨#[]⟩, .imm 0 4 true []]]⟩), (9, ⟨29, 4, true, [[.int .i64 k6, .int .i64 n6, .str s6, .imm q6 4 f6 (cellss ks6)]]⟩), (7, ⟨29, 4, true, [[.int .i64 k4, .int .i64 n4, .str s4, .imm q4 4 f4 (cellss ks4)]]⟩), (6, ⟨29, 4, true, [[.int .i64 k3, .int .i64 n3, .str s3, .imm q3 4 f3 (cellss ks3)]]⟩)], [⟨51, 1, true, [[.int .i64 i8]]⟩], O, tkj36⟩) rfl ?_ ?_
  ·refine run_region ?_
   refine run_pu rfl (fieldAddr_step hG rfl rfl rfl rfl rfl) rfl (ltb rfl) ?_
   refine run_ld hG rfl rfl rfl rfl rfl (ltb rfl) ?_
   refine run_bin rfl rfl rfl rfl rfl rfl rfl (ltb rfl) ?_
   refine mvL rfl rfl rfl rfl (ltb rfl) ?_
   refine run_splitd (i := 39) rfl (fun hb37 => ?_) (fun hb37 => ?_)
   ·replace hM := ite_t hb37 hM
    refine run_puG (on_of rfl rfl rfl rfl) (fieldAddr_step hG rfl rfl rfl rfl rfl) rfl (ltb rfl) ?_
    refine run_rdG (on_of rfl rfl rfl rfl) (aload_rd hG rfl rfl rfl (by first | (simp [ldok]; done) | exact List.not_mem_nil | trivial)) rfl (ltb rfl) ?_
    refine run_puG (on_of rfl rfl rfl rfl) (move_step (.inl rfl) rfl) rfl (ltb rfl) ?_
    refine run_puG (on_of rfl rfl rfl rfl) (abin_step rfl rfl rfl rfl (fun _ h => by cases h)) rfl (ltb rfl) ?_
    refine run_pu rfl (pick_step rfl rfl rfl) rfl (ltb rfl) ?_
    refine run_ops_nil ?_
    refine run_ifd rfl rfl (fun hb38 => ?_) (fun hb38 => ?_)
    ·replace hM := ite_t hb38 hM
     refine run_seq ?_
     refine run_draw [.loc 10, .bor 0] (n := 9) mixed rfl (by intro x hx; simp only [List.mem_cons, List.not_mem_nil, or_false] at hx; rcases hx with rfl | rfl <;> rfl) ?_
     refine AAny.take (i := 0) rfl (by kernel_rfl) (by kernel_rfl) (by kernel_rfl) rfl rfl (ltb rfl) ((move_step (.inl rfl) rfl).rd _) ?_
     refine AAny.take (i := 1) rfl (by kernel_rfl) (by kernel_rfl) (by kernel_rfl) rfl rfl (ltb rfl) (aload_rd hG rfl rfl rfl (by first | (simp [ldok]; done) | exact List.not_mem_nil | trivial)) ?_
     refine AAny.take (i := 2) rfl (by kernel_rfl) (by kernel_rfl) (by kernel_rfl) rfl rfl (ltb rfl) ((move_step (.inl rfl) rfl).rd _) ?_
     refine AAny.take (i := 5) rfl (by kernel_rfl) (by kernel_rfl) (by kernel_rfl) rfl rfl (ltb rfl) (aload_rd hG rfl rfl rfl (by first | (simp [ldok]; done) | exact List.not_mem_nil | trivial)) ?_
     refine AAny.take (i := 6) rfl (by kernel_rfl) (by kernel_rfl) (by kernel_rfl) rfl rfl (ltb rfl) ((move_step (.inl rfl) rfl).rd _) ?_
     obtain ⟨r39, hg40, hM⟩ := bind_t hM
     refine AAny.one (i := 3) (by kernel_rfl) (AOp.call rfl rfl rfl rfl (ltb rfl) rfl rfl rfl (fun _ h => absurd h List.not_mem_nil) (fun _ h => absurd h List.not_mem_nil) (i_lift_ok n k3 n3 s3 q3 f3 ks3 0 i5 hg40 _ _) (callK_retX (fun v tk41 (hle42 : tki_work_put_L1 ≤ tk41) h43 => ?_)))
     obtain ⟨k44, n44, s44, q44, f44, ks44, rfl, rfl, hf45⟩ := h43
     obtain ⟨z51, hg47, hM⟩ := zb_t hM
     refine AAny.one (i := 4) (by kernel_rfl) (AOp.call rfl rfl rfl rfl (ltb rfl) rfl rfl rfl (fun _ h => absurd h List.not_mem_nil) (fun _ h => absurd h List.not_mem_nil) (i_formed_ok n k44 n44 s44 q44 f44 ks44 hg47 _ _) (callK_retZ (fun r46 v tk48 hz54 (hle49 : tk41 ≤ tk48) h50 => ?_) (fun c p tk48 hz (_ : tk41 ≤ tk48) => by subst hz; obtain rfl := bd_stop hM; exact run_pan_at (cut_pan (⟨⟨51, 1, true, [[.int .i64 i8]]⟩, rfl, (show tk ≤ tk48 by omega), rfl, rfl⟩)))))
     subst hz54
     replace hM := bd_ok hM
     obtain ⟨k52, n52, s52, q52, f52, ks52, rfl, rfl, hf53⟩ := h50
     refine AAny.sub (Sub.freeze (k := 14) rfl rfl) (by intro x hx; simp only [List.mem_cons, List.not_mem_nil, or_false] at hx; rcases hx with rfl | rfl <;> rfl) ?_
     obtain ⟨z60, hg56, hM⟩ := zb_t hM
     refine AAny.one (i := 7) (by kernel_rfl) (AOp.call rfl rfl rfl rfl (ltb rfl) rfl rfl rfl (fun _ h => absurd h List.not_mem_nil) (by intro x hx; have hx : x ∈ [ID.bor 0] := hx; simp only [List.mem_cons, List.not_mem_nil, or_false] at hx; subst hx; simp) (ih_i_work_apply (.bor 0) i8 k52 n52 s52 q52 f52 ks52 k4 n4 s4 q4 f4 ks4 tk48 false ks9 hg56 _ _ rfl) (callK_retVZ_bor (k := 0) rfl (fun a v o' tk' h => by obtain ⟨_, _, rfl, rfl, _⟩ := h; rfl) (fun o' h => h) (fun r55 v o'66 tk57 hz63 (hle58 : (tk48 + 1) ≤ tk57) h59 => ?_) (fun c p o' tk57 hz (_ : (tk48 + 1) ≤ tk57) ho => by subst hz; obtain rfl := bd_stop hM; exact run_pan_at (cut_pan (⟨o', rfl, (show tk ≤ tk57 by omega), rfl, ho⟩)))))
     subst hz63
     replace hM := bd_ok hM
     obtain ⟨ra65, c64, rfl, rfl, ⟨k61, n61, s61, q61, f61, ks61, rfl, rfl, hf62⟩⟩ := h59
     refine AAny.one (i := 8) (by kernel_rfl) (AOp.step0 rfl rfl rfl (store_step hG rfl rfl rfl rfl rfl rfl rfl rfl) (by intro x hx; have hx : x ∈ [ID.loc 10] := hx; simp only [List.mem_cons, List.not_mem_nil, or_false] at hx; subst hx; simp) ?_)
     refine AAny.done (by kernel_rfl) ?_
     refine run_ret_to ?_
     refine cut_ret ?_
     obtain rfl := some_t hM
     refine fin_x hG rfl rfl rfl (v' := .agg [.int .i64 k61, .int .i64 n61, .str s61, .imm q61 4 f61 (cellss ks61)]) (by rfl) ⟨⟨51, 1, true, [[.int .i64 c64]]⟩, rfl, (show tk ≤ tk57 by omega), _, rfl, ⟨_, c64, rfl, rfl, ⟨k61, n61, s61, q61, f61, ks61, rfl, rfl, fun h => by cases h⟩⟩⟩
    ·replace hM := ite_f hb38 hM
     refine run_skip ?_
     exact ⟨tki_work_put_L1, (show tki_work_put_L1 ≤ tki_work_put_L1 by omega), hM, Sub.env [(3, .int .i64 i5), (9, .optr (.loc 9) 0 0), (10, .optr (.loc 10) 0 0), (11, .osl (.loc 14))] ⟨rfl, rfl, rfl, rfl, trivial⟩⟩
   ·replace hM := ite_f hb37 hM
    refine run_off (on_of rfl rfl rfl rfl) rfl (ltb rfl) ?_
    refine run_off (on_of rfl rfl rfl rfl) rfl (ltb rfl) ?_
    refine run_off (on_of rfl rfl rfl rfl) rfl (ltb rfl) ?_
    refine run_off (on_of rfl rfl rfl rfl) rfl (ltb rfl) ?_
    refine run_pu rfl (pick_step rfl rfl rfl) rfl (ltb rfl) ?_
    refine run_ops_nil ?_
    refine run_if rfl rfl (fun h => by cases h) (fun _ => ?_)
    refine run_skip ?_
    exact ⟨tki_work_put_L1, (show tki_work_put_L1 ≤ tki_work_put_L1 by omega), hM, Sub.env [(3, .int .i64 i5), (9, .optr (.loc 9) 0 0), (10, .optr (.loc 10) 0 0), (11, .osl (.loc 14))] ⟨rfl, rfl, rfl, rfl, trivial⟩⟩
  ·clear hM
   rintro σ' ⟨tkj36, hle96, hM, hsub⟩
   rw [hj97] at hM
   clear hj97
   refine run_sub_code hsub ?_
   refine run_seq ?_
   refine run_sr ?_
   refine run_pu rfl (fieldAddr_step hG rfl rfl rfl rfl rfl) rfl (ltb rfl) ?_
   refine run_ld hG rfl rfl rfl rfl rfl (ltb rfl) ?_
   refine run_bin rfl rfl rfl rfl rfl rfl rfl (ltb rfl) ?_
   refine mvL rfl rfl rfl rfl (ltb rfl) ?_
   refine run_splitd (i := 56) rfl (fun hb67 => ?_) (fun hb67 => ?_)
   ·replace hM := ite_t hb67 hM
    refine run_puG (on_of rfl rfl rfl rfl) (fieldAddr_step hG rfl rfl rfl rfl rfl) rfl (ltb rfl) ?_
    refine run_rdG (on_of rfl rfl rfl rfl) (aload_rd hG rfl rfl rfl (by first | (simp [ldok]; done) | exact List.not_mem_nil | trivial)) rfl (ltb rfl) ?_
    refine run_puG (on_of rfl rfl rfl rfl) (move_step (.inl rfl) rfl) rfl (ltb rfl) ?_
    refine run_puG (on_of rfl rfl rfl rfl) (abin_step rfl rfl rfl rfl (fun _ h => by cases h)) rfl (ltb rfl) ?_
    refine run_pu rfl (pick_step rfl rfl rfl) rfl (ltb rfl) ?_
    refine run_ops_nil ?_
    refine run_ifd rfl rfl (fun hb68 => ?_) (fun hb68 => ?_)
    ·replace hM := ite_t hb68 hM
     refine run_region ?_
     refine run_pu rfl (fieldAddr_step hG rfl rfl rfl rfl rfl) rfl (ltb rfl) ?_
     refine run_ld hG rfl rfl rfl rfl rfl (ltb rfl) ?_
     refine run_bin rfl rfl rfl rfl rfl rfl rfl (ltb rfl) ?_
     refine run_pu rfl (fieldAddr_step hG rfl rfl rfl rfl rfl) rfl (ltb rfl) ?_
     refine run_op0 rfl (store_step hG rfl rfl rfl rfl rfl rfl rfl rfl) rfl ?_
     refine run_ops_nil ?_
     refine run_sub_code (σ' := ⟨[(9, .optr (.loc 9) 0 0), (10, .optr (.loc 10) 0 0), (11, .osl (.loc 14))], [(14, ⟨29, 4, false, cellss ks9⟩), (10, ⟨29, 4, true, [[.int .i64 0, .int .i64 0, .str ⟨#[]⟩, .imm 0 4 true []]]⟩), (9, ⟨29, 4, true, [[.int .i64 k6, .int .i64 (IntKind.i64.wrap (n6 - 1)), .str s6, .imm q6 4 f6 (cellss ks6)]]⟩)], [⟨51, 1, true, [[.int .i64 i8]]⟩], O, tkj36⟩) (Sub.trans (Sub.drop (k := 7) rfl) (Sub.trans (Sub.drop (k := 6) rfl) (Sub.env _ ⟨rfl, rfl, rfl, trivial⟩))) ?_
     refine run_sr ?_
     refine mvL rfl rfl rfl rfl (ltb rfl) ?_
     refine run_pu rfl (fieldAddr_step hG rfl rfl rfl rfl rfl) rfl (ltb rfl) ?_
     refine run_op0 rfl (store_step hG rfl rfl rfl rfl rfl rfl rfl rfl) rfl ?_
     refine run_ops_nil ?_
     refine run_sr ?_
     refine run_ld hG rfl rfl rfl rfl rfl (ltb rfl) ?_
     refine run_sub_ops (Sub.freeze (k := 14) rfl rfl) ?_
     obtain ⟨z74, hg70, hM⟩ := zb_t hM
     refine run_call rfl rfl rfl (ltb rfl) rfl rfl rfl (fun _ h => absurd h List.not_mem_nil) (i_formed_ok n k6 (IntKind.i64.wrap (n6 - 1)) s6 tkj36 false ks9 hg70 _ _) (callK_retZ (fun r69 v tk71 hz77 (hle72 : (tkj36 + 1) ≤ tk71) h73 => ?_) (fun c p tk71 hz (_ : (tkj36 + 1) ≤ tk71) => by subst hz; obtain rfl := bd_stop hM; exact run_pan_at (⟨⟨51, 1, true, [[.int .i64 i8]]⟩, rfl, (show tk ≤ tk71 by omega), rfl, rfl⟩)))
     subst hz77
     replace hM := bd_ok hM
     obtain ⟨k75, n75, s75, q75, f75, ks75, rfl, rfl, hf76⟩ := h73
     refine run_op0 rfl (store_step hG rfl rfl rfl rfl rfl rfl rfl rfl) rfl ?_
     refine run_ops_nil ?_
     refine run_ret_to ?_
     obtain rfl := some_t hM
     refine fin_x hG rfl rfl rfl (v' := .agg [.int .i64 k75, .int .i64 n75, .str s75, .imm q75 4 f75 (cellss ks75)]) (by rfl) ⟨⟨51, 1, true, [[.int .i64 i8]]⟩, rfl, (show tk ≤ tk71 by omega), _, rfl, ⟨_, i8, rfl, rfl, ⟨k75, n75, s75, q75, f75, ks75, rfl, rfl, fun h => by cases h⟩⟩⟩
    ·replace hM := ite_f hb68 hM
     refine run_skip ?_
     refine run_sr ?_
     refine mvL rfl rfl rfl rfl (ltb rfl) ?_
     refine run_pu rfl (fieldAddr_step hG rfl rfl rfl rfl rfl) rfl (ltb rfl) ?_
     refine run_op0 rfl (store_step hG rfl rfl rfl rfl rfl rfl rfl rfl) rfl ?_
     refine run_ops_nil ?_
     refine run_sr ?_
     refine run_ld hG rfl rfl rfl rfl rfl (ltb rfl) ?_
     refine run_sub_ops (Sub.freeze (k := 14) rfl rfl) ?_
     obtain ⟨z83, hg79, hM⟩ := zb_t hM
     refine run_call rfl rfl rfl (ltb rfl) rfl rfl rfl (fun _ h => absurd h List.not_mem_nil) (i_formed_ok n k6 n6 s6 tkj36 false ks9 hg79 _ _) (callK_retZ (fun r78 v tk80 hz86 (hle81 : (tkj36 + 1) ≤ tk80) h82 => ?_) (fun c p tk80 hz (_ : (tkj36 + 1) ≤ tk80) => by subst hz; obtain rfl := bd_stop hM; exact run_pan_at (⟨⟨51, 1, true, [[.int .i64 i8]]⟩, rfl, (show tk ≤ tk80 by omega), rfl, rfl⟩)))
     subst hz86
     replace hM := bd_ok hM
     obtain ⟨k84, n84, s84, q84, f84, ks84, rfl, rfl, hf85⟩ := h82
     refine run_op0 rfl (store_step hG rfl rfl rfl rfl rfl rfl rfl rfl) rfl ?_
     refine run_ops_nil ?_
     refine run_ret_to ?_
     obtain rfl := some_t hM
     refine fin_x hG rfl rfl rfl (v' := .agg [.int .i64 k84, .int .i64 n84, .str s84, .imm q84 4 f84 (cellss ks84)]) (by rfl) ⟨⟨51, 1, true, [[.int .i64 i8]]⟩, rfl, (show tk ≤ tk80 by omega), _, rfl, ⟨_, i8, rfl, rfl, ⟨k84, n84, s84, q84, f84, ks84, rfl, rfl, fun h => by cases h⟩⟩⟩
   ·replace hM := ite_f hb67 hM
    refine run_off (on_of rfl rfl rfl rfl) rfl (ltb rfl) ?_
    refine run_off (on_of rfl rfl rfl rfl) rfl (ltb rfl) ?_
    refine run_off (on_of rfl rfl rfl rfl) rfl (ltb rfl) ?_
    refine run_off (on_of rfl rfl rfl rfl) rfl (ltb rfl) ?_
    refine run_pu rfl (pick_step rfl rfl rfl) rfl (ltb rfl) ?_
    refine run_ops_nil ?_
    refine run_if rfl rfl (fun h => by cases h) (fun _ => ?_)
    refine run_skip ?_
    refine run_sr ?_
    refine mvL rfl rfl rfl rfl (ltb rfl) ?_
    refine run_pu rfl (fieldAddr_step hG rfl rfl rfl rfl rfl) rfl (ltb rfl) ?_
    refine run_op0 rfl (store_step hG rfl rfl rfl rfl rfl rfl rfl rfl) rfl ?_
    refine run_ops_nil ?_
    refine run_sr ?_
    refine run_ld hG rfl rfl rfl rfl rfl (ltb rfl) ?_
    refine run_sub_ops (Sub.freeze (k := 14) rfl rfl) ?_
    obtain ⟨z92, hg88, hM⟩ := zb_t hM
    refine run_call rfl rfl rfl (ltb rfl) rfl rfl rfl (fun _ h => absurd h List.not_mem_nil) (i_formed_ok n k6 n6 s6 tkj36 false ks9 hg88 _ _) (callK_retZ (fun r87 v tk89 hz95 (hle90 : (tkj36 + 1) ≤ tk89) h91 => ?_) (fun c p tk89 hz (_ : (tkj36 + 1) ≤ tk89) => by subst hz; obtain rfl := bd_stop hM; exact run_pan_at (⟨⟨51, 1, true, [[.int .i64 i8]]⟩, rfl, (show tk ≤ tk89 by omega), rfl, rfl⟩)))
    subst hz95
    replace hM := bd_ok hM
    obtain ⟨k93, n93, s93, q93, f93, ks93, rfl, rfl, hf94⟩ := h91
    refine run_op0 rfl (store_step hG rfl rfl rfl rfl rfl rfl rfl rfl) rfl ?_
    refine run_ops_nil ?_
    refine run_ret_to ?_
    obtain rfl := some_t hM
    refine fin_x hG rfl rfl rfl (v' := .agg [.int .i64 k93, .int .i64 n93, .str s93, .imm q93 4 f93 (cellss ks93)]) (by rfl) ⟨⟨51, 1, true, [[.int .i64 i8]]⟩, rfl, (show tk ≤ tk89 by omega), _, rfl, ⟨_, i8, rfl, rfl, ⟨k93, n93, s93, q93, f93, ks93, rfl, rfl, fun h => by cases h⟩⟩⟩

theorem i_work_apply_all : ∀ (n : Nat), (∀ (X0 : ID) (i2 : Int) (k3 : Int) (n3 : Int) (s3 : ByteArray) (q3 : Nat) (f3 : Bool) (ks3 : List LT) (k4 : Int) (n4 : Int) (s4 : ByteArray) (q4 : Nat) (f4 : Bool) (ks4 : List LT) (q5 : Nat) (f5 : Bool) (ks5 : List LT) {r : (Rz (T × (Int)))}, i_work_apply n (i2) (T.mk k3 n3 s3 (ers ks3)) (T.mk k4 n4 s4 (ers ks4)) (ers ks5) = some r → ∀ (O : Heap) (tk : Nat), O X0 = some ⟨51, 1, true, [[.int .i64 i2]]⟩ → ACalls Go.Proofs.Tryd.prog 28 [.optr X0 0 0, .agg [.int .i64 k3, .int .i64 n3, .str s3, .imm q3 4 f3 (cellss ks3)], .agg [.int .i64 k4, .int .i64 n4, .str s4, .imm q4 4 f4 (cellss ks4)], .imm q5 4 f5 (cellss ks5)] O tk (RetVZ HT O X0 tk r (fun r v o' tk' => ∃ r0', ∃ (c0 : Int) , r = (r0', (c0)) ∧ o' = ⟨51, 1, true, [[.int .i64 c0]]⟩ ∧ VT false tk tk' r0' v) (fun o' => o'.up = o'))) ∧ (∀ (X0 : ID) (i2 : Int) (k3 : Int) (n3 : Int) (s3 : ByteArray) (q3 : Nat) (f3 : Bool) (ks3 : List LT) (k4 : Int) (n4 : Int) (s4 : ByteArray) (q4 : Nat) (f4 : Bool) (ks4 : List LT) (i5 : Int) (k6 : Int) (n6 : Int) (s6 : ByteArray) (q6 : Nat) (f6 : Bool) (ks6 : List LT) {r : (Rz (T × (Int)))}, i_work_put n (i2) (T.mk k3 n3 s3 (ers ks3)) (T.mk k4 n4 s4 (ers ks4)) i5 (T.mk k6 n6 s6 (ers ks6)) = some r → ∀ (O : Heap) (tk : Nat), O X0 = some ⟨51, 1, true, [[.int .i64 i2]]⟩ → ACalls Go.Proofs.Tryd.prog 37 [.optr X0 0 0, .agg [.int .i64 k3, .int .i64 n3, .str s3, .imm q3 4 f3 (cellss ks3)], .agg [.int .i64 k4, .int .i64 n4, .str s4, .imm q4 4 f4 (cellss ks4)], .int .i64 i5, .agg [.int .i64 k6, .int .i64 n6, .str s6, .imm q6 4 f6 (cellss ks6)]] O tk (RetVZ HT O X0 tk r (fun r v o' tk' => ∃ r0', ∃ (c0 : Int) , r = (r0', (c0)) ∧ o' = ⟨51, 1, true, [[.int .i64 c0]]⟩ ∧ VT false tk tk' r0' v) (fun o' => o'.up = o')))
 | 0 => ⟨(by intro X0 i2 k3 n3 s3 q3 f3 ks3 k4 n4 s4 q4 f4 ks4 q5 f5 ks5 r hM; rw [i_work_apply] at hM; cases hM), (by intro X0 i2 k3 n3 s3 q3 f3 ks3 k4 n4 s4 q4 f4 ks4 i5 k6 n6 s6 q6 f6 ks6 r hM; rw [i_work_put] at hM; cases hM)⟩
 | n + 1 => have ih := i_work_apply_all n; ⟨i_work_apply_st n (ih.2), i_work_put_st n (ih.1) (ih.2)⟩

theorem i_work_apply_ok (n : Nat) : ∀ (X0 : ID) (i2 : Int) (k3 : Int) (n3 : Int) (s3 : ByteArray) (q3 : Nat) (f3 : Bool) (ks3 : List LT) (k4 : Int) (n4 : Int) (s4 : ByteArray) (q4 : Nat) (f4 : Bool) (ks4 : List LT) (q5 : Nat) (f5 : Bool) (ks5 : List LT) {r : (Rz (T × (Int)))}, i_work_apply n (i2) (T.mk k3 n3 s3 (ers ks3)) (T.mk k4 n4 s4 (ers ks4)) (ers ks5) = some r → ∀ (O : Heap) (tk : Nat), O X0 = some ⟨51, 1, true, [[.int .i64 i2]]⟩ → ACalls Go.Proofs.Tryd.prog 28 [.optr X0 0 0, .agg [.int .i64 k3, .int .i64 n3, .str s3, .imm q3 4 f3 (cellss ks3)], .agg [.int .i64 k4, .int .i64 n4, .str s4, .imm q4 4 f4 (cellss ks4)], .imm q5 4 f5 (cellss ks5)] O tk (RetVZ HT O X0 tk r (fun r v o' tk' => ∃ r0', ∃ (c0 : Int) , r = (r0', (c0)) ∧ o' = ⟨51, 1, true, [[.int .i64 c0]]⟩ ∧ VT false tk tk' r0' v) (fun o' => o'.up = o')) := (i_work_apply_all n).1

theorem i_work_put_ok (n : Nat) : ∀ (X0 : ID) (i2 : Int) (k3 : Int) (n3 : Int) (s3 : ByteArray) (q3 : Nat) (f3 : Bool) (ks3 : List LT) (k4 : Int) (n4 : Int) (s4 : ByteArray) (q4 : Nat) (f4 : Bool) (ks4 : List LT) (i5 : Int) (k6 : Int) (n6 : Int) (s6 : ByteArray) (q6 : Nat) (f6 : Bool) (ks6 : List LT) {r : (Rz (T × (Int)))}, i_work_put n (i2) (T.mk k3 n3 s3 (ers ks3)) (T.mk k4 n4 s4 (ers ks4)) i5 (T.mk k6 n6 s6 (ers ks6)) = some r → ∀ (O : Heap) (tk : Nat), O X0 = some ⟨51, 1, true, [[.int .i64 i2]]⟩ → ACalls Go.Proofs.Tryd.prog 37 [.optr X0 0 0, .agg [.int .i64 k3, .int .i64 n3, .str s3, .imm q3 4 f3 (cellss ks3)], .agg [.int .i64 k4, .int .i64 n4, .str s4, .imm q4 4 f4 (cellss ks4)], .int .i64 i5, .agg [.int .i64 k6, .int .i64 n6, .str s6, .imm q6 4 f6 (cellss ks6)]] O tk (RetVZ HT O X0 tk r (fun r v o' tk' => ∃ r0', ∃ (c0 : Int) , r = (r0', (c0)) ∧ o' = ⟨51, 1, true, [[.int .i64 c0]]⟩ ∧ VT false tk tk' r0' v) (fun o' => o'.up = o')) := (i_work_apply_all n).2

def s_l01Copy_L1 (rec_s_l01Copy : T → Option T) (x1 : T) : Nat → Int → List T → Option T
 | 0, _, _ => none
 | m + 1, i2, l3 =>
  if i2 < ((x1.kids).length : Int) then
   (idx x1.kids i2).bind fun y5 =>
   (rec_s_l01Copy y5).bind fun r10 =>
   chk ((l3).length + ([r10]).length ≤ 1099511627776) <|
   s_l01Copy_L1 rec_s_l01Copy x1 m (IntKind.i64.wrap (i2 + 1)) (l3 ++ [r10])
  else
   some (T.mk x1.kind x1.n x1.name l3)

def s_l01Copy : Nat → T → Option T
 | 0, _ => none
 | n + 1, x1 =>
  s_l01Copy_L1 (s_l01Copy n) x1 n 0 ([])

set_option maxRecDepth 100000 in
theorem s_l01Copy_st (n : Nat) (ih_s_l01Copy : ∀ (k1 : Int) (n1 : Int) (s1 : ByteArray) (q1 : Nat) (f1 : Bool) (ks1 : List LT) {r : T}, s_l01Copy n (T.mk k1 n1 s1 (ers ks1)) = some r → ∀ (O : Heap) (tk : Nat), ACalls Go.Proofs.Tryd.prog 41 [.agg [.int .i64 k1, .int .i64 n1, .str s1, .imm q1 4 f1 (cellss ks1)]] O tk (RetX O tk (fun v tk' => VT true tk tk' r v))) : ∀ (k1 : Int) (n1 : Int) (s1 : ByteArray) (q1 : Nat) (f1 : Bool) (ks1 : List LT) {r : T}, s_l01Copy (n + 1) (T.mk k1 n1 s1 (ers ks1)) = some r → ∀ (O : Heap) (tk : Nat), ACalls Go.Proofs.Tryd.prog 41 [.agg [.int .i64 k1, .int .i64 n1, .str s1, .imm q1 4 f1 (cellss ks1)]] O tk (RetX O tk (fun v tk' => VT true tk tk' r v)) := by
 intro k1 n1 s1 q1 f1 ks1 r hM O tk
 rw [s_l01Copy] at hM
 refine acalls_of_run Go.Proofs.Tryd.func41 rfl rfl [] [] (Bor.nil _) [(0, .agg [.int .i64 k1, .int .i64 n1, .str s1, .imm q1 4 f1 (cellss ks1)])] (.cons (.agg _) (.nil _)) (leb rfl) (fun _ h => by cases h) (fun S0 hO htk hfz => ?_)
 refine run_sr ?_
 refine run_op rfl (box_step (d := 1) rfl rfl rfl rfl rfl) rfl (ltb rfl) ?_
 refine run_op rfl (alloc_step (d := 2) hG rfl rfl rfl) rfl (ltb rfl) ?_
 refine run_ops_nil ?_
 refine run_sr ?_
 refine run_op rfl (buildSlice_step (d := 5) hG rfl rfl rfl rfl rfl (by rfl) (by rfl) (by rfl) (by decide)) rfl (ltb rfl) ?_
 refine mvR rfl rfl rfl rfl (ltb rfl) ?_
 refine run_ops_nil ?_
 refine run_seq ?_
 refine run_sr ?_
 refine mvR rfl rfl rfl rfl (ltb rfl) ?_
 refine run_ops_nil ?_
 refine run_block ?_
 refine run_rounds (fun m σ => ∃ (i2 : Int) (ks3 : List LT) (tks_l01Copy_L1 : Nat), tk ≤ tks_l01Copy_L1 ∧ Fr tk tks_l01Copy_L1 (ttoks ks3) ∧ s_l01Copy_L1 (s_l01Copy n) (T.mk k1 n1 s1 (ers ks1)) m i2 (ers ks3) = some r ∧ σ = ⟨[(1, .optr (.loc 1) 0 0), (2, .optr (.loc 2) 0 0), (3, .osl (.loc 5)), (4, .int .i64 i2)], [(5, ⟨29, 4, false, cellss ks3⟩), (2, ⟨29, 4, true, [[.int .i64 0, .int .i64 0, .str ⟨#[]⟩, .imm 0 4 true []]]⟩), (1, ⟨29, 4, true, [[.int .i64 k1, .int .i64 n1, .str s1, .imm q1 4 f1 (cellss ks1)]]⟩)], [], O, tks_l01Copy_L1⟩) n (Sub.env [(1, .optr (.loc 1) 0 0), (2, .optr (.loc 2) 0 0), (3, .osl (.loc 5)), (4, .int .i64 0)] ⟨rfl, rfl, rfl, rfl, trivial⟩) ⟨0, [], tk, Nat.le_refl _, Fr.nil _ _, hM, rfl⟩ (fun m σ hI => ?_)
 clear hM
 obtain ⟨i2, ks3, tks_l01Copy_L1, hle18, hfr3, hM, rfl⟩ := hI
 obtain _ | m := m
 ·exact absurd hM (by rw [s_l01Copy_L1]; exact fun h => by cases h)
 rw [s_l01Copy_L1] at hM
 refine run_seq ?_
 refine run_sr ?_
 refine mvL rfl rfl rfl rfl (ltb rfl) ?_
 refine run_pu rfl (fieldAddr_step hG rfl rfl rfl rfl rfl) rfl (ltb rfl) ?_
 refine run_ld hG rfl rfl rfl rfl rfl (ltb rfl) ?_
 refine run_pu rfl (lenImm_step hG rfl rfl rfl rfl (tlen _)) rfl (ltb rfl) ?_
 refine run_bin rfl rfl rfl rfl rfl rfl rfl (ltb rfl) ?_
 refine run_ops_nil ?_
 refine run_ifd rfl rfl (fun hb4 => ?_) (fun hb4 => ?_)
 ·replace hM := ite_t hb4 hM
  refine run_skip ?_
  refine run_seq ?_
  refine run_block ?_
  refine run_region ?_
  refine mvL rfl rfl rfl rfl (ltb rfl) ?_
  refine run_pu rfl (fieldAddr_step hG rfl rfl rfl rfl rfl) rfl (ltb rfl) ?_
  refine run_ld hG rfl rfl rfl rfl rfl (ltb rfl) ?_
  refine mvL rfl rfl rfl rfl (ltb rfl) ?_
  obtain ⟨y5, hy6, hM⟩ := bind_t hM
  obtain ⟨k7, n7, s7, q7, f7, ks7, rfl, hc8, hi9⟩ := tidx (ks := ks1) hy6
  refine run_pu rfl (indexImm_step hG rfl rfl rfl hi9 rfl rfl rfl rfl hc8) rfl (ltb rfl) ?_
  refine run_ld hG rfl rfl rfl rfl rfl (ltb rfl) ?_
  obtain ⟨r10, hg11, hM⟩ := bind_t hM
  refine run_call rfl rfl rfl (ltb rfl) rfl rfl rfl (fun _ h => absurd h List.not_mem_nil) (ih_s_l01Copy k7 n7 s7 q7 f7 ks7 hg11 _ _) (callK_retX (fun v tk12 (hle13 : tks_l01Copy_L1 ≤ tk12) h14 => ?_))
  obtain ⟨k15, n15, s15, q15, f15, ks15, rfl, rfl, hf16⟩ := h14
  refine run_op rfl (buildSlice_step (d := 20) hG rfl rfl rfl rfl rfl (by rfl) (by rfl) (by rfl) (by decide)) rfl (ltb rfl) ?_
  obtain ⟨hc17, hM⟩ := chk_t hM
  try rw [show ((ers ks3) ++ [(T.mk k15 n15 s15 (ers ks15))] : List T) = (ers (ks3 ++ [LT.mk k15 n15 s15 q15 f15 ks15])) from ers_app ks3 [LT.mk k15 n15 s15 q15 f15 ks15]] at hM
  refine run_op rfl (appendM_step hG rfl rfl rfl rfl rfl rfl rfl rfl rfl rfl rfl (cellss_sz ([LT.mk k15 n15 s15 q15 f15 ks15])) (tlen ks3) (tlen ([LT.mk k15 n15 s15 q15 f15 ks15])) hc17 (by decide) (cellss_app _ _)) rfl (ltb rfl) ?_
  refine mvR rfl rfl rfl rfl (ltb rfl) ?_
  refine run_ops_nil ?_
  refine run_blk ?_
  refine run_sub_code (σ' := ⟨[(1, .optr (.loc 1) 0 0), (2, .optr (.loc 2) 0 0), (3, .osl (.loc 5)), (4, .int .i64 i2)], [(5, ⟨29, 4, false, cellss (ks3 ++ [LT.mk k15 n15 s15 q15 f15 ks15])⟩), (2, ⟨29, 4, true, [[.int .i64 0, .int .i64 0, .str ⟨#[]⟩, .imm 0 4 true []]]⟩), (1, ⟨29, 4, true, [[.int .i64 k1, .int .i64 n1, .str s1, .imm q1 4 f1 (cellss ks1)]]⟩)], [], O, tk12⟩) (Sub.trans (Sub.drop (k := 20) rfl) (Sub.env _ ⟨rfl, rfl, rfl, rfl, trivial⟩)) ?_
  refine run_region ?_
  refine mvL rfl rfl rfl rfl (ltb rfl) ?_
  refine run_bin rfl rfl rfl rfl rfl rfl rfl (ltb rfl) ?_
  refine mvR rfl rfl rfl rfl (ltb rfl) ?_
  refine run_ops_nil ?_
  exact run_loop_end ⟨m, _, Nat.lt_succ_self _, ⟨(IntKind.i64.wrap (i2 + 1)), (ks3 ++ [LT.mk k15 n15 s15 q15 f15 ks15]), tk12, (show tk ≤ tk12 by omega), (show Fr tk tk12 _ from (Fr.tsnoc (show Fr tk tks_l01Copy_L1 _ from (hfr3).mono (by omega) (by omega)) ((show Fr tks_l01Copy_L1 tk12 _ from hf16 rfl)) (by omega) (by omega)).mono (by omega) (by omega)), hM, rfl⟩, Sub.env [(1, .optr (.loc 1) 0 0), (2, .optr (.loc 2) 0 0), (3, .osl (.loc 5)), (4, .int .i64 (IntKind.i64.wrap (i2 + 1)))] ⟨rfl, rfl, rfl, rfl, trivial⟩⟩
 ·replace hM := ite_f hb4 hM
  refine run_exit_to rfl ?_
  refine run_sr ?_
  refine run_ld hG rfl rfl rfl rfl rfl (ltb rfl) ?_
  refine mvL rfl rfl rfl rfl (ltb rfl) ?_
  refine run_sub_ops (Sub.freeze (k := 5) rfl rfl) ?_
  refine run_call rfl rfl rfl (ltb rfl) rfl rfl rfl (fun _ h => absurd h List.not_mem_nil) (s_l01With_ex k1 n1 s1 q1 f1 ks1 tks_l01Copy_L1 false ks3 _ _) (callK_retN ?_)
  skip
  refine run_op0 rfl (store_step hG rfl rfl rfl rfl rfl rfl rfl rfl) rfl ?_
  refine run_ops_nil ?_
  refine run_ret_to ?_
  obtain rfl := some_t hM
  refine fin_x hG rfl rfl rfl (v' := .agg [.int .i64 k1, .int .i64 n1, .str s1, .imm tks_l01Copy_L1 4 false (cellss ks3)]) (by rfl) ⟨rfl, (show tk ≤ (tks_l01Copy_L1 + 1) by omega), _, rfl, ⟨k1, n1, s1, tks_l01Copy_L1, false, ks3, rfl, rfl, fun _ => (show Fr tk (tks_l01Copy_L1 + 1) _ from (show Fr tk (tks_l01Copy_L1 + 1) _ from Fr.tstop (show Fr tk tks_l01Copy_L1 _ from (hfr3).mono (by omega) (by omega)) (by omega) (by omega)).mono (by omega) (by omega))⟩⟩

theorem s_l01Copy_all : ∀ (n : Nat), (∀ (k1 : Int) (n1 : Int) (s1 : ByteArray) (q1 : Nat) (f1 : Bool) (ks1 : List LT) {r : T}, s_l01Copy n (T.mk k1 n1 s1 (ers ks1)) = some r → ∀ (O : Heap) (tk : Nat), ACalls Go.Proofs.Tryd.prog 41 [.agg [.int .i64 k1, .int .i64 n1, .str s1, .imm q1 4 f1 (cellss ks1)]] O tk (RetX O tk (fun v tk' => VT true tk tk' r v)))
 | 0 => by intro k1 n1 s1 q1 f1 ks1 r hM; rw [s_l01Copy] at hM; cases hM
 | n + 1 => have ih := s_l01Copy_all n; s_l01Copy_st n (ih)

theorem s_l01Copy_ok (n : Nat) : ∀ (k1 : Int) (n1 : Int) (s1 : ByteArray) (q1 : Nat) (f1 : Bool) (ks1 : List LT) {r : T}, s_l01Copy n (T.mk k1 n1 s1 (ers ks1)) = some r → ∀ (O : Heap) (tk : Nat), ACalls Go.Proofs.Tryd.prog 41 [.agg [.int .i64 k1, .int .i64 n1, .str s1, .imm q1 4 f1 (cellss ks1)]] O tk (RetX O tk (fun v tk' => VT true tk tk' r v)) := s_l01Copy_all n

def s_l03Big (n : Nat) (x1 : T) : Option Bool :=
 (s_l01Small n x1).bind fun r2 =>
 if (!r2) = true then
  some true
 else
  (s_l01High n x1).bind fun r10 =>
  some r10

set_option maxRecDepth 100000 in
theorem s_l03Big_ok (n : Nat) : ∀ (k1 : Int) (n1 : Int) (s1 : ByteArray) (q1 : Nat) (f1 : Bool) (ks1 : List LT) {r : Bool}, s_l03Big n (T.mk k1 n1 s1 (ers ks1)) = some r → ∀ (O : Heap) (tk : Nat), ACalls Go.Proofs.Tryd.prog 52 [.agg [.int .i64 k1, .int .i64 n1, .str s1, .imm q1 4 f1 (cellss ks1)]] O tk (RetX O tk (fun v tk' => v = .bool r)) := by
 intro k1 n1 s1 q1 f1 ks1 r hM O tk
 unfold s_l03Big at hM
 refine acalls_of_run Go.Proofs.Tryd.func52 rfl rfl [] [] (Bor.nil _) [(0, .agg [.int .i64 k1, .int .i64 n1, .str s1, .imm q1 4 f1 (cellss ks1)])] (.cons (.agg _) (.nil _)) (leb rfl) (fun _ h => by cases h) (fun S0 hO htk hfz => ?_)
 refine run_sr ?_
 refine run_op rfl (box_step (d := 1) rfl rfl rfl rfl rfl) rfl (ltb rfl) ?_
 refine mvR rfl rfl rfl rfl (ltb rfl) ?_
 refine run_ops_nil ?_
 refine run_sr ?_
 refine run_ld hG rfl rfl rfl rfl rfl (ltb rfl) ?_
 obtain ⟨r2, hg3, hM⟩ := bind_t hM
 refine run_call rfl rfl rfl (ltb rfl) rfl rfl rfl (fun _ h => absurd h List.not_mem_nil) (s_l01Small_ok n k1 n1 s1 q1 f1 ks1 hg3 _ _) (callK_retX (fun v tk4 (hle5 : tk ≤ tk4) h6 => ?_))
 subst h6
 refine run_pu rfl (aun_step rfl rfl rfl) rfl (ltb rfl) ?_
 refine mvL rfl rfl rfl rfl (ltb rfl) ?_
 refine run_splitb (i := 6) rfl (fun hb9 => ?_) (fun hb9 => ?_)
 ·replace hM := ite_t hb9 hM
  refine run_off (on_of rfl rfl rfl rfl) rfl (ltb rfl) ?_
  refine run_off (on_of rfl rfl rfl rfl) rfl (ltb rfl) ?_
  refine run_pu rfl (pick_step rfl rfl rfl) rfl (ltb rfl) ?_
  refine mvR rfl rfl rfl rfl (ltb rfl) ?_
  refine run_ops_nil ?_
  refine run_ret_to ?_
  obtain rfl := some_t hM
  refine fin_x hG rfl rfl rfl (v' := .bool true) (by rfl) ⟨rfl, (show tk ≤ tk4 by omega), _, rfl, rfl⟩
 ·replace hM := ite_f hb9 hM
  refine run_rdG (on_of rfl rfl rfl rfl) (aload_rd hG rfl rfl rfl (by first | (simp [ldok]; done) | exact List.not_mem_nil | trivial)) rfl (ltb rfl) ?_
  obtain ⟨r10, hg11, hM⟩ := bind_t hM
  refine run_callG (on_of rfl rfl rfl rfl) rfl rfl (ltb rfl) rfl rfl rfl (fun _ h => absurd h List.not_mem_nil) (s_l01High_ok n k1 n1 s1 q1 f1 ks1 hg11 _ _) (callK_retX (fun v tk12 (hle13 : tk4 ≤ tk12) h14 => ?_))
  subst h14
  refine run_pu rfl (pick_step rfl rfl rfl) rfl (ltb rfl) ?_
  refine mvR rfl rfl rfl rfl (ltb rfl) ?_
  refine run_ops_nil ?_
  refine run_ret_to ?_
  obtain rfl := some_t hM
  refine fin_x hG rfl rfl rfl (v' := .bool r10) (by rfl) ⟨rfl, (show tk ≤ tk12 by omega), _, rfl, rfl⟩

def s_l03Run_reduce_L1 (rec_s_l03Run_sub : (Int) → T → T → T → Int → Option (T × Int × (Int))) (n : Nat) (l5 : List T) : Nat → Int → Int → Int → Int → ByteArray → List T → Int → Int → ByteArray → List T → Option (T × Int × (Int))
 | 0, _, _, _, _, _, _, _, _, _, _ => none
 | m + 1, i6, i7, i8, i9, t10, l11, i12, i13, t14, l15 =>
  if i6 < ((l5).length : Int) then
   if (i12 != 10) = true then
    some ((T.mk 0 0 ⟨#[]⟩ []), 12, (i7))
   else
    if (i8 != 4) = true then
     some ((T.mk 0 0 ⟨#[]⟩ []), 12, (i7))
    else
     if (IntKind.i64.wrap (i7 + 1)) > 20000 then
      some ((T.mk 0 0 ⟨#[]⟩ []), 17, ((IntKind.i64.wrap (i7 + 1))))
     else
      (idx l5 i6).bind fun y20 =>
      (idx l15 0).bind fun y25 =>
      (idx l11 0).bind fun y30 =>
      (rec_s_l03Run_sub ((IntKind.i64.wrap (i7 + 1))) y20 y25 y30 0).bind fun r35 =>
      if (r35.2.1 != 0) = true then
       some ((T.mk 0 0 ⟨#[]⟩ []), r35.2.1, (r35.2.2))
      else
       (idx l15 1).bind fun y52 =>
       s_l03Run_reduce_L1 rec_s_l03Run_sub n l5 m (IntKind.i64.wrap (i6 + 1)) r35.2.2 r35.1.kind r35.1.n r35.1.name r35.1.kids y52.kind y52.n y52.name y52.kids
  else
   (s_l01Copy n (T.mk i8 i9 t10 l11)).bind fun r79 =>
   some (r79, 0, (i7))

def s_l03Run_sub_L1 (rec_s_l03Run_reduce : (Int) → T → T → List T → Option (T × Int × (Int))) (rec_s_l03Run_sub : (Int) → T → T → T → Int → Option (T × Int × (Int))) (n : Nat) (x3 : T) (x4 : T) (x5 : T) (i6 : Int) : Nat → Int → Int → List T → Option (T × Int × (Int))
 | 0, _, _, _ => none
 | m + 1, i7, i8, l9 =>
  if i7 < ((x5.kids).length : Int) then
   (idx x5.kids i7).bind fun y11 =>
   (s_l01Under x5 i7).bind fun r16 =>
   (rec_s_l03Run_sub (i8) x3 x4 y11 (IntKind.i64.wrap (i6 + r16))).bind fun r23 =>
   if (r23.2.1 != 0) = true then
    some ((T.mk 0 0 ⟨#[]⟩ []), r23.2.1, (r23.2.2))
   else
    chk ((l9).length + ([r23.1]).length ≤ 1099511627776) <|
    s_l03Run_sub_L1 rec_s_l03Run_reduce rec_s_l03Run_sub n x3 x4 x5 i6 m (IntKind.i64.wrap (i7 + 1)) r23.2.2 (l9 ++ [r23.1])
  else
   jn (
    if x5.kind = 5 then
     if x5.n > i6 then
      (s_l03Big n (T.mk x5.kind (IntKind.i64.wrap (x5.n - 1)) x5.name l9)).bind fun r120 =>
      if r120 = true then
       some ((T.mk 0 0 ⟨#[]⟩ []), 11, (i8))
      else
       some ((T.mk x5.kind (IntKind.i64.wrap (x5.n - 1)) x5.name l9), 0, (i8))
     else
      (s_l03Big n (T.mk x5.kind x5.n x5.name l9)).bind fun r128 =>
      if r128 = true then
       some ((T.mk 0 0 ⟨#[]⟩ []), 11, (i8))
      else
       some ((T.mk x5.kind x5.n x5.name l9), 0, (i8))
    else
     (s_l03Big n (T.mk x5.kind x5.n x5.name l9)).bind fun r136 =>
     if r136 = true then
      some ((T.mk 0 0 ⟨#[]⟩ []), 11, (i8))
     else
      some ((T.mk x5.kind x5.n x5.name l9), 0, (i8))) fun j84 =>
   if x5.kind = 5 then
    if x5.n = i6 then
     (s_l01Lift n x3 0 i6).bind fun r87 =>
     (s_l03Big n r87).bind fun r94 =>
     if r94 = true then
      some ((T.mk 0 0 ⟨#[]⟩ []), 11, (i8))
     else
      (rec_s_l03Run_reduce (i8) r87 x4 l9).bind fun r102 =>
      some (r102.1, r102.2.1, (r102.2.2))
    else
     j84
   else
    j84

mutual

def s_l03Run_reduce : Nat → (Int) → T → T → List T → Option (T × Int × (Int))
 | 0, _, _, _, _ => none
 | n + 1, z1, x3, x4, l5 =>
  s_l03Run_reduce_L1 (s_l03Run_sub n) n l5 n 0 z1 x3.kind x3.n x3.name x3.kids x4.kind x4.n x4.name x4.kids

def s_l03Run_sub : Nat → (Int) → T → T → T → Int → Option (T × Int × (Int))
 | 0, _, _, _, _, _ => none
 | n + 1, z1, x3, x4, x5, i6 =>
  s_l03Run_sub_L1 (s_l03Run_reduce n) (s_l03Run_sub n) n x3 x4 x5 i6 n 0 z1 ([])

end

set_option maxHeartbeats 2000000 in
set_option maxRecDepth 100000 in
theorem s_l03Run_reduce_st (n : Nat) (ih_s_l03Run_sub : ∀ (X0 : ID) (i2 : Int) (k3 : Int) (n3 : Int) (s3 : ByteArray) (q3 : Nat) (f3 : Bool) (ks3 : List LT) (k4 : Int) (n4 : Int) (s4 : ByteArray) (q4 : Nat) (f4 : Bool) (ks4 : List LT) (k5 : Int) (n5 : Int) (s5 : ByteArray) (q5 : Nat) (f5 : Bool) (ks5 : List LT) (i6 : Int) {r : (T × Int × (Int))}, s_l03Run_sub n (i2) (T.mk k3 n3 s3 (ers ks3)) (T.mk k4 n4 s4 (ers ks4)) (T.mk k5 n5 s5 (ers ks5)) i6 = some r → ∀ (O : Heap) (tk : Nat), O X0 = some ⟨45, 1, true, [[.int .i64 i2]]⟩ → ACalls Go.Proofs.Tryd.prog 32 [.optr X0 0 0, .agg [.int .i64 k3, .int .i64 n3, .str s3, .imm q3 4 f3 (cellss ks3)], .agg [.int .i64 k4, .int .i64 n4, .str s4, .imm q4 4 f4 (cellss ks4)], .agg [.int .i64 k5, .int .i64 n5, .str s5, .imm q5 4 f5 (cellss ks5)], .int .i64 i6] O tk (RetV O X0 tk (fun v o' tk' => ∃ r0' r1' v0' v1', ∃ (c0 : Int), r = (r0', r1', (c0)) ∧ o' = ⟨45, 1, true, [[.int .i64 c0]]⟩ ∧ v = .tup [v0', v1'] ∧ VT true tk tk' r0' v0' ∧ v1' = .int .i64 r1'))) : ∀ (X0 : ID) (i2 : Int) (k3 : Int) (n3 : Int) (s3 : ByteArray) (q3 : Nat) (f3 : Bool) (ks3 : List LT) (k4 : Int) (n4 : Int) (s4 : ByteArray) (q4 : Nat) (f4 : Bool) (ks4 : List LT) (q5 : Nat) (f5 : Bool) (ks5 : List LT) {r : (T × Int × (Int))}, s_l03Run_reduce (n + 1) (i2) (T.mk k3 n3 s3 (ers ks3)) (T.mk k4 n4 s4 (ers ks4)) (ers ks5) = some r → ∀ (O : Heap) (tk : Nat), O X0 = some ⟨45, 1, true, [[.int .i64 i2]]⟩ → ACalls Go.Proofs.Tryd.prog 21 [.optr X0 0 0, .agg [.int .i64 k3, .int .i64 n3, .str s3, .imm q3 4 f3 (cellss ks3)], .agg [.int .i64 k4, .int .i64 n4, .str s4, .imm q4 4 f4 (cellss ks4)], .imm q5 4 f5 (cellss ks5)] O tk (RetV O X0 tk (fun v o' tk' => ∃ r0' r1' v0' v1', ∃ (c0 : Int), r = (r0', r1', (c0)) ∧ o' = ⟨45, 1, true, [[.int .i64 c0]]⟩ ∧ v = .tup [v0', v1'] ∧ VT true tk tk' r0' v0' ∧ v1' = .int .i64 r1')) := by
 intro X0 i2 k3 n3 s3 q3 f3 ks3 k4 n4 s4 q4 f4 ks4 q5 f5 ks5 r hM O tk hX0
 rw [s_l03Run_reduce] at hM
 refine acalls_of_run Go.Proofs.Tryd.func21 rfl rfl [X0] [⟨45, 1, true, [[.int .i64 i2]]⟩] (Bor.one hX0 rfl) [(0, .optr (.bor 0) 0 0), (1, .agg [.int .i64 k3, .int .i64 n3, .str s3, .imm q3 4 f3 (cellss ks3)]), (2, .agg [.int .i64 k4, .int .i64 n4, .str s4, .imm q4 4 f4 (cellss ks4)]), (3, .imm q5 4 f5 (cellss ks5))] (.cons (.bor 0 _ _ _ rfl) (.cons (.agg _) (.cons (.agg _) (.cons (entS rfl) (.nil _))))) (leb rfl) (by intro y h; simp only [List.mem_cons, List.not_mem_nil, or_false] at h; rcases h with rfl <;> simp [tch, tch0]) (fun S0 hO htk hfz => ?_)
 refine run_sr ?_
 refine run_op rfl (box_step (d := 5) rfl rfl rfl rfl rfl) rfl (ltb rfl) ?_
 refine run_op rfl (box_step (d := 6) rfl rfl rfl rfl rfl) rfl (ltb rfl) ?_
 refine run_op rfl (alloc_step (d := 8) hG rfl rfl rfl) rfl (ltb rfl) ?_
 refine mvR rfl rfl rfl rfl (ltb rfl) ?_
 refine run_ops_nil ?_
 refine run_seq ?_
 refine run_sr ?_
 refine mvR rfl rfl rfl rfl (ltb rfl) ?_
 refine run_ops_nil ?_
 refine run_block ?_
 refine run_rounds (fun m σ => ∃ (i6 : Int) (i7 : Int) (i8 : Int) (i9 : Int) (t10 : ByteArray) (q11 : Nat) (f11 : Bool) (ks11 : List LT) (i12 : Int) (i13 : Int) (t14 : ByteArray) (q15 : Nat) (f15 : Bool) (ks15 : List LT) (tks_l03Run_reduce_L1 : Nat), tk ≤ tks_l03Run_reduce_L1 ∧ s_l03Run_reduce_L1 (s_l03Run_sub n) n (ers ks5) m i6 i7 i8 i9 t10 (ers ks11) i12 i13 t14 (ers ks15) = some r ∧ σ = ⟨[(0, .optr (.bor 0) 0 0), (3, .imm q5 4 f5 (cellss ks5)), (5, .optr (.loc 5) 0 0), (6, .optr (.loc 6) 0 0), (8, .optr (.loc 8) 0 0), (9, .int .i64 0), (10, .int .i64 i6)], [(8, ⟨29, 4, true, [[.int .i64 0, .int .i64 0, .str ⟨#[]⟩, .imm 0 4 true []]]⟩), (6, ⟨29, 4, true, [[.int .i64 i12, .int .i64 i13, .str t14, .imm q15 4 f15 (cellss ks15)]]⟩), (5, ⟨29, 4, true, [[.int .i64 i8, .int .i64 i9, .str t10, .imm q11 4 f11 (cellss ks11)]]⟩)], [⟨45, 1, true, [[.int .i64 i7]]⟩], O, tks_l03Run_reduce_L1⟩) n (Sub.env [(0, .optr (.bor 0) 0 0), (3, .imm q5 4 f5 (cellss ks5)), (5, .optr (.loc 5) 0 0), (6, .optr (.loc 6) 0 0), (8, .optr (.loc 8) 0 0), (9, .int .i64 0), (10, .int .i64 0)] ⟨rfl, rfl, rfl, rfl, rfl, rfl, rfl, trivial⟩) ⟨0, i2, k3, n3, s3, q3, f3, ks3, k4, n4, s4, q4, f4, ks4, tk, Nat.le_refl _, hM, rfl⟩ (fun m σ hI => ?_)
 clear hM
 obtain ⟨i6, i7, i8, i9, t10, q11, f11, ks11, i12, i13, t14, q15, f15, ks15, tks_l03Run_reduce_L1, hle86, hM, rfl⟩ := hI
 obtain _ | m := m
 ·exact absurd hM (by rw [s_l03Run_reduce_L1]; exact fun h => by cases h)
 rw [s_l03Run_reduce_L1] at hM
 refine run_seq ?_
 refine run_sr ?_
 refine mvL rfl rfl rfl rfl (ltb rfl) ?_
 refine mvL rfl rfl rfl rfl (ltb rfl) ?_
 refine run_pu rfl (lenImm_step hG rfl rfl rfl rfl (tlen _)) rfl (ltb rfl) ?_
 refine run_bin rfl rfl rfl rfl rfl rfl rfl (ltb rfl) ?_
 refine run_ops_nil ?_
 refine run_ifd rfl rfl (fun hb16 => ?_) (fun hb16 => ?_)
 ·replace hM := ite_t hb16 hM
  refine run_skip ?_
  refine run_seq ?_
  refine run_block ?_
  refine run_seq ?_
  refine run_sr ?_
  refine run_pu rfl (fieldAddr_step hG rfl rfl rfl rfl rfl) rfl (ltb rfl) ?_
  refine run_ld hG rfl rfl rfl rfl rfl (ltb rfl) ?_
  refine run_bin rfl rfl rfl rfl rfl rfl rfl (ltb rfl) ?_
  refine mvL rfl rfl rfl rfl (ltb rfl) ?_
  refine run_splitb (i := 22) rfl (fun hb17 => ?_) (fun hb17 => ?_)
  ·replace hM := ite_t hb17 hM
   refine run_off (on_of rfl rfl rfl rfl) rfl (ltb rfl) ?_
   refine run_off (on_of rfl rfl rfl rfl) rfl (ltb rfl) ?_
   refine run_off (on_of rfl rfl rfl rfl) rfl (ltb rfl) ?_
   refine run_pu rfl (pick_step rfl rfl rfl) rfl (ltb rfl) ?_
   refine run_ops_nil ?_
   refine run_if rfl rfl (fun _ => ?_) (fun h => by cases h)
   refine run_sr ?_
   refine run_pu rfl (build_step hG rfl (by rfl) rfl (fun h => by cases h) (by rfl)) rfl (ltb rfl) ?_
   refine run_op0 rfl (store_step hG rfl rfl rfl rfl rfl rfl rfl rfl) rfl ?_
   refine mvR rfl rfl rfl rfl (ltb rfl) ?_
   refine run_ops_nil ?_
   refine run_ret_to ?_
   obtain rfl := some_t hM
   refine fin_x hG rfl rfl rfl (v' := .tup [.agg [.int .i64 0, .int .i64 0, .str ⟨#[]⟩, .imm 0 4 true (cellss [])], .int .i64 12]) (by rfl) ⟨_, ⟨45, 1, true, [[.int .i64 i7]]⟩, rfl, rfl, (show tk ≤ tks_l03Run_reduce_L1 by omega), ⟨_, _, _, _, i7, rfl, rfl, rfl, ⟨0, 0, ⟨#[]⟩, 0, true, [], rfl, rfl, fun _ => Fr.nil _ _⟩, rfl⟩⟩
  ·replace hM := ite_f hb17 hM
   refine run_puG (on_of rfl rfl rfl rfl) (fieldAddr_step hG rfl rfl rfl rfl rfl) rfl (ltb rfl) ?_
   refine run_rdG (on_of rfl rfl rfl rfl) (aload_rd hG rfl rfl rfl (by first | (simp [ldok]; done) | exact List.not_mem_nil | trivial)) rfl (ltb rfl) ?_
   refine run_puG (on_of rfl rfl rfl rfl) (abin_step rfl rfl rfl rfl (fun _ h => by cases h)) rfl (ltb rfl) ?_
   refine run_pu rfl (pick_step rfl rfl rfl) rfl (ltb rfl) ?_
   refine run_ops_nil ?_
   refine run_ifb rfl rfl (fun hb18 => ?_) (fun hb18 => ?_)
   ·replace hM := ite_t hb18 hM
    refine run_sr ?_
    refine run_pu rfl (build_step hG rfl (by rfl) rfl (fun h => by cases h) (by rfl)) rfl (ltb rfl) ?_
    refine run_op0 rfl (store_step hG rfl rfl rfl rfl rfl rfl rfl rfl) rfl ?_
    refine mvR rfl rfl rfl rfl (ltb rfl) ?_
    refine run_ops_nil ?_
    refine run_ret_to ?_
    obtain rfl := some_t hM
    refine fin_x hG rfl rfl rfl (v' := .tup [.agg [.int .i64 0, .int .i64 0, .str ⟨#[]⟩, .imm 0 4 true (cellss [])], .int .i64 12]) (by rfl) ⟨_, ⟨45, 1, true, [[.int .i64 i7]]⟩, rfl, rfl, (show tk ≤ tks_l03Run_reduce_L1 by omega), ⟨_, _, _, _, i7, rfl, rfl, rfl, ⟨0, 0, ⟨#[]⟩, 0, true, [], rfl, rfl, fun _ => Fr.nil _ _⟩, rfl⟩⟩
   ·replace hM := ite_f hb18 hM
    refine run_skip ?_
    refine run_sr ?_
    refine mvL rfl rfl rfl rfl (ltb rfl) ?_
    refine run_pu rfl (nilCheck_step rfl rfl ⟨_, rfl⟩) rfl (ltb rfl) ?_
    refine run_pu rfl (fieldAddr_step hG rfl rfl rfl rfl rfl) rfl (ltb rfl) ?_
    refine run_ld hG rfl rfl rfl rfl rfl (ltb rfl) ?_
    refine run_bin rfl rfl rfl rfl rfl rfl rfl (ltb rfl) ?_
    refine run_pu rfl (nilCheck_step rfl rfl ⟨_, rfl⟩) rfl (ltb rfl) ?_
    refine run_pu rfl (fieldAddr_step hG rfl rfl rfl rfl rfl) rfl (ltb rfl) ?_
    refine run_op0 rfl (store_step hG rfl rfl rfl rfl rfl rfl rfl rfl) rfl ?_
    refine run_ops_nil ?_
    refine run_sub_code (σ' := ⟨[(0, .optr (.bor 0) 0 0), (3, .imm q5 4 f5 (cellss ks5)), (5, .optr (.loc 5) 0 0), (6, .optr (.loc 6) 0 0), (8, .optr (.loc 8) 0 0), (9, .int .i64 0), (10, .int .i64 i6)], [(8, ⟨29, 4, true, [[.int .i64 0, .int .i64 0, .str ⟨#[]⟩, .imm 0 4 true []]]⟩), (6, ⟨29, 4, true, [[.int .i64 i12, .int .i64 i13, .str t14, .imm q15 4 f15 (cellss ks15)]]⟩), (5, ⟨29, 4, true, [[.int .i64 i8, .int .i64 i9, .str t10, .imm q11 4 f11 (cellss ks11)]]⟩)], [⟨45, 1, true, [[.int .i64 (IntKind.i64.wrap (i7 + 1))]]⟩], O, tks_l03Run_reduce_L1⟩) (Sub.env _ ⟨rfl, rfl, rfl, rfl, rfl, rfl, rfl, trivial⟩) ?_
    refine run_seq ?_
    refine run_sr ?_
    refine mvL rfl rfl rfl rfl (ltb rfl) ?_
    refine run_pu rfl (nilCheck_step rfl rfl ⟨_, rfl⟩) rfl (ltb rfl) ?_
    refine run_pu rfl (fieldAddr_step hG rfl rfl rfl rfl rfl) rfl (ltb rfl) ?_
    refine run_ld hG rfl rfl rfl rfl rfl (ltb rfl) ?_
    refine run_bin rfl rfl rfl rfl rfl rfl rfl (ltb rfl) ?_
    refine run_ops_nil ?_
    refine run_ifd rfl rfl (fun hb19 => ?_) (fun hb19 => ?_)
    ·replace hM := ite_t hb19 hM
     refine run_sr ?_
     refine run_pu rfl (build_step hG rfl (by rfl) rfl (fun h => by cases h) (by rfl)) rfl (ltb rfl) ?_
     refine run_op0 rfl (store_step hG rfl rfl rfl rfl rfl rfl rfl rfl) rfl ?_
     refine mvR rfl rfl rfl rfl (ltb rfl) ?_
     refine run_ops_nil ?_
     refine run_ret_to ?_
     obtain rfl := some_t hM
     refine fin_x hG rfl rfl rfl (v' := .tup [.agg [.int .i64 0, .int .i64 0, .str ⟨#[]⟩, .imm 0 4 true (cellss [])], .int .i64 17]) (by rfl) ⟨_, ⟨45, 1, true, [[.int .i64 (IntKind.i64.wrap (i7 + 1))]]⟩, rfl, rfl, (show tk ≤ tks_l03Run_reduce_L1 by omega), ⟨_, _, _, _, (IntKind.i64.wrap (i7 + 1)), rfl, rfl, rfl, ⟨0, 0, ⟨#[]⟩, 0, true, [], rfl, rfl, fun _ => Fr.nil _ _⟩, rfl⟩⟩
    ·replace hM := ite_f hb19 hM
     refine run_skip ?_
     refine run_seq ?_
     refine run_draw [.bor 0] (n := 20) mixed rfl (by intro x hx; simp only [List.mem_cons, List.not_mem_nil, or_false] at hx; rcases hx with rfl <;> rfl) ?_
     refine AAny.take (i := 0) rfl (by kernel_rfl) (by kernel_rfl) (by kernel_rfl) rfl rfl (ltb rfl) ((move_step (.inl rfl) rfl).rd _) ?_
     refine AAny.take (i := 1) rfl (by kernel_rfl) (by kernel_rfl) (by kernel_rfl) rfl rfl (ltb rfl) ((move_step (.inl rfl) rfl).rd _) ?_
     refine AAny.take (i := 2) rfl (by kernel_rfl) (by kernel_rfl) (by kernel_rfl) rfl rfl (ltb rfl) ((move_step (.inl rfl) rfl).rd _) ?_
     obtain ⟨y20, hy21, hM⟩ := bind_t hM
     obtain ⟨k22, n22, s22, q22, f22, ks22, rfl, hc23, hi24⟩ := tidx (ks := ks5) hy21
     refine AAny.take (i := 3) rfl (by kernel_rfl) (by kernel_rfl) (by kernel_rfl) rfl rfl (ltb rfl) ((indexImm_step hG rfl rfl rfl hi24 rfl rfl rfl rfl hc23).rd _) ?_
     refine AAny.take (i := 4) rfl (by kernel_rfl) (by kernel_rfl) (by kernel_rfl) rfl rfl (ltb rfl) (aload_rd hG rfl rfl rfl (by first | (simp [ldok]; done) | exact List.not_mem_nil | trivial)) ?_
     refine AAny.take (i := 5) rfl (by kernel_rfl) (by kernel_rfl) (by kernel_rfl) rfl rfl (ltb rfl) ((fieldAddr_step hG rfl rfl rfl rfl rfl).rd _) ?_
     refine AAny.take (i := 6) rfl (by kernel_rfl) (by kernel_rfl) (by kernel_rfl) rfl rfl (ltb rfl) (aload_rd hG rfl rfl rfl (by first | (simp [ldok]; done) | exact List.not_mem_nil | trivial)) ?_
     obtain ⟨y25, hy26, hM⟩ := bind_t hM
     obtain ⟨k27, n27, s27, q27, f27, ks27, rfl, hc28, hi29⟩ := tidx (ks := ks15) hy26
     refine AAny.take (i := 7) rfl (by kernel_rfl) (by kernel_rfl) (by kernel_rfl) rfl rfl (ltb rfl) ((indexImm_step hG rfl rfl rfl hi29 rfl rfl rfl rfl hc28).rd _) ?_
     refine AAny.take (i := 8) rfl (by kernel_rfl) (by kernel_rfl) (by kernel_rfl) rfl rfl (ltb rfl) (aload_rd hG rfl rfl rfl (by first | (simp [ldok]; done) | exact List.not_mem_nil | trivial)) ?_
     refine AAny.take (i := 9) rfl (by kernel_rfl) (by kernel_rfl) (by kernel_rfl) rfl rfl (ltb rfl) ((fieldAddr_step hG rfl rfl rfl rfl rfl).rd _) ?_
     refine AAny.take (i := 10) rfl (by kernel_rfl) (by kernel_rfl) (by kernel_rfl) rfl rfl (ltb rfl) (aload_rd hG rfl rfl rfl (by first | (simp [ldok]; done) | exact List.not_mem_nil | trivial)) ?_
     obtain ⟨y30, hy31, hM⟩ := bind_t hM
     obtain ⟨k32, n32, s32, q32, f32, ks32, rfl, hc33, hi34⟩ := tidx (ks := ks11) hy31
     refine AAny.take (i := 11) rfl (by kernel_rfl) (by kernel_rfl) (by kernel_rfl) rfl rfl (ltb rfl) ((indexImm_step hG rfl rfl rfl hi34 rfl rfl rfl rfl hc33).rd _) ?_
     refine AAny.take (i := 12) rfl (by kernel_rfl) (by kernel_rfl) (by kernel_rfl) rfl rfl (ltb rfl) (aload_rd hG rfl rfl rfl (by first | (simp [ldok]; done) | exact List.not_mem_nil | trivial)) ?_
     refine AAny.eachN (rs := [13, 17]) (by kernel_rfl) (fun h => by cases h) (fun i hi => ?_)
     simp only [List.mem_cons, List.not_mem_nil, or_false] at hi
     rcases hi with rfl | rfl
     ·refine AOpN.of ?_
      obtain ⟨r35, hg36, hM⟩ := bind_t hM
      refine AOp.call rfl rfl rfl rfl (ltb rfl) rfl rfl rfl (fun _ h => absurd h List.not_mem_nil) (by intro x hx; have hx : x ∈ [ID.bor 0] := hx; simp only [List.mem_cons, List.not_mem_nil, or_false] at hx; subst hx; simp) (ih_s_l03Run_sub (.bor 0) (IntKind.i64.wrap (i7 + 1)) k22 n22 s22 q22 f22 ks22 k27 n27 s27 q27 f27 ks27 k32 n32 s32 q32 f32 ks32 0 hg36 _ _ rfl) (callK_retV_bor (k := 0) rfl (fun v o' tk' h => by obtain ⟨_, _, _, _, _, rfl, rfl, _⟩ := h; rfl) (fun v o'50 tk37 (hle38 : tks_l03Run_reduce_L1 ≤ tk37) h39 => ?_))
      obtain ⟨ra46, ra47, va48, va49, c44, rfl, rfl, rfl, ⟨k40, n40, s40, q40, f40, ks40, rfl, rfl, hf41⟩, rfl⟩ := h39
      refine AAny.take (i := 14) rfl (by kernel_rfl) (by kernel_rfl) (by kernel_rfl) rfl rfl (ltb rfl) ((move_step (.inl rfl) rfl).rd _) ?_
      refine AAny.take (i := 15) rfl (by kernel_rfl) (by kernel_rfl) (by kernel_rfl) rfl rfl (ltb rfl) ((extract_step rfl rfl rfl).rd _) ?_
      refine AAny.take (i := 16) rfl (by kernel_rfl) (by kernel_rfl) (by kernel_rfl) rfl rfl (ltb rfl) ((extract_step rfl rfl rfl).rd _) ?_
      refine AAny.eachN (rs := [17]) (by kernel_rfl) (fun h => by cases h) (fun i hi => ?_)
      simp only [List.mem_cons, List.not_mem_nil, or_false] at hi
      subst hi
      ·refine AOpN.alloc hG rfl rfl rfl (ltb rfl) rfl rfl rfl ?_
       refine AAny.one (i := 18) (by kernel_rfl) (AOp.step0 rfl rfl rfl (store_step hG rfl rfl rfl rfl rfl rfl rfl rfl) (by intro x hx; have hx : x ∈ [ID.loc 11] := hx; simp only [List.mem_cons, List.not_mem_nil, or_false] at hx; subst hx; simp) ?_)
       refine AAny.take (i := 19) rfl (by kernel_rfl) (by kernel_rfl) (by kernel_rfl) rfl rfl (ltb rfl) ((move_step (.inr rfl) rfl).rd _) ?_
       refine AAny.done (by kernel_rfl) ?_
       refine run_sub_code (σ' := ⟨[(0, .optr (.bor 0) 0 0), (3, .imm q5 4 f5 (cellss ks5)), (5, .optr (.loc 5) 0 0), (6, .optr (.loc 6) 0 0), (8, .optr (.loc 8) 0 0), (9, .int .i64 0), (10, .int .i64 i6), (11, .optr (.loc 11) 0 0), (12, .int .i64 ra47)], [(11, ⟨29, 4, true, [[.int .i64 k40, .int .i64 n40, .str s40, .imm q40 4 f40 (cellss ks40)]]⟩), (8, ⟨29, 4, true, [[.int .i64 0, .int .i64 0, .str ⟨#[]⟩, .imm 0 4 true []]]⟩), (6, ⟨29, 4, true, [[.int .i64 i12, .int .i64 i13, .str t14, .imm q15 4 f15 (cellss ks15)]]⟩), (5, ⟨29, 4, true, [[.int .i64 i8, .int .i64 i9, .str t10, .imm q11 4 f11 (cellss ks11)]]⟩)], [⟨45, 1, true, [[.int .i64 c44]]⟩], O, tk37⟩) (Sub.env _ ⟨rfl, rfl, rfl, rfl, rfl, rfl, rfl, rfl, rfl, trivial⟩) ?_
       refine run_seq ?_
       refine run_sr ?_
       refine mvL rfl rfl rfl rfl (ltb rfl) ?_
       refine run_bin rfl rfl rfl rfl rfl rfl rfl (ltb rfl) ?_
       refine run_ops_nil ?_
       refine run_ifb rfl rfl (fun hb51 => ?_) (fun hb51 => ?_)
       ·replace hM := ite_t hb51 hM
        refine run_sr ?_
        refine run_pu rfl (build_step hG rfl (by rfl) rfl (fun h => by cases h) (by rfl)) rfl (ltb rfl) ?_
        refine mvL rfl rfl rfl rfl (ltb rfl) ?_
        refine run_op0 rfl (store_step hG rfl rfl rfl rfl rfl rfl rfl rfl) rfl ?_
        refine mvR rfl rfl rfl rfl (ltb rfl) ?_
        refine run_ops_nil ?_
        refine run_ret_to ?_
        obtain rfl := some_t hM
        refine fin_x hG rfl rfl rfl (v' := .tup [.agg [.int .i64 0, .int .i64 0, .str ⟨#[]⟩, .imm 0 4 true (cellss [])], .int .i64 ra47]) (by rfl) ⟨_, ⟨45, 1, true, [[.int .i64 c44]]⟩, rfl, rfl, (show tk ≤ tk37 by omega), ⟨_, _, _, _, c44, rfl, rfl, rfl, ⟨0, 0, ⟨#[]⟩, 0, true, [], rfl, rfl, fun _ => Fr.nil _ _⟩, rfl⟩⟩
       ·replace hM := ite_f hb51 hM
        refine run_skip ?_
        refine run_sr ?_
        refine run_ld hG rfl rfl rfl rfl rfl (ltb rfl) ?_
        refine run_op0 rfl (store_step hG rfl rfl rfl rfl rfl rfl rfl rfl) rfl ?_
        refine run_ops_nil ?_
        refine run_region ?_
        refine run_pu rfl (fieldAddr_step hG rfl rfl rfl rfl rfl) rfl (ltb rfl) ?_
        refine run_ld hG rfl rfl rfl rfl rfl (ltb rfl) ?_
        obtain ⟨y52, hy53, hM⟩ := bind_t hM
        obtain ⟨k54, n54, s54, q54, f54, ks54, rfl, hc55, hi56⟩ := tidx (ks := ks15) hy53
        refine run_pu rfl (indexImm_step hG rfl rfl rfl hi56 rfl rfl rfl rfl hc55) rfl (ltb rfl) ?_
        refine run_ld hG rfl rfl rfl rfl rfl (ltb rfl) ?_
        refine run_op0 rfl (store_step hG rfl rfl rfl rfl rfl rfl rfl rfl) rfl ?_
        refine run_ops_nil ?_
        refine run_blk ?_
        refine run_region ?_
        refine mvL rfl rfl rfl rfl (ltb rfl) ?_
        refine run_bin rfl rfl rfl rfl rfl rfl rfl (ltb rfl) ?_
        refine mvR rfl rfl rfl rfl (ltb rfl) ?_
        refine run_ops_nil ?_
        exact run_loop_end ⟨m, _, Nat.lt_succ_self _, ⟨(IntKind.i64.wrap (i6 + 1)), c44, k40, n40, s40, q40, f40, ks40, k54, n54, s54, q54, f54, ks54, tk37, (show tk ≤ tk37 by omega), hM, rfl⟩, Sub.trans (Sub.drop (k := 11) rfl) (Sub.env [(0, .optr (.bor 0) 0 0), (3, .imm q5 4 f5 (cellss ks5)), (5, .optr (.loc 5) 0 0), (6, .optr (.loc 6) 0 0), (8, .optr (.loc 8) 0 0), (9, .int .i64 0), (10, .int .i64 (IntKind.i64.wrap (i6 + 1)))] ⟨rfl, rfl, rfl, rfl, rfl, rfl, rfl, trivial⟩)⟩
     ·refine AOpN.alloc hG rfl rfl rfl (ltb rfl) rfl rfl rfl ?_
      obtain ⟨r57, hg58, hM⟩ := bind_t hM
      refine AAny.one (i := 13) (by kernel_rfl) (AOp.call rfl rfl rfl rfl (ltb rfl) rfl rfl rfl (fun _ h => absurd h List.not_mem_nil) (by intro x hx; have hx : x ∈ [ID.bor 0] := hx; simp only [List.mem_cons, List.not_mem_nil, or_false] at hx; subst hx; simp) (ih_s_l03Run_sub (.bor 0) (IntKind.i64.wrap (i7 + 1)) k22 n22 s22 q22 f22 ks22 k27 n27 s27 q27 f27 ks27 k32 n32 s32 q32 f32 ks32 0 hg58 _ _ rfl) (callK_retV_bor (k := 0) rfl (fun v o' tk' h => by obtain ⟨_, _, _, _, _, rfl, rfl, _⟩ := h; rfl) (fun v o'72 tk59 (hle60 : tks_l03Run_reduce_L1 ≤ tk59) h61 => ?_)))
      obtain ⟨ra68, ra69, va70, va71, c66, rfl, rfl, rfl, ⟨k62, n62, s62, q62, f62, ks62, rfl, rfl, hf63⟩, rfl⟩ := h61
      refine AAny.take (i := 14) rfl (by kernel_rfl) (by kernel_rfl) (by kernel_rfl) rfl rfl (ltb rfl) ((move_step (.inl rfl) rfl).rd _) ?_
      refine AAny.take (i := 15) rfl (by kernel_rfl) (by kernel_rfl) (by kernel_rfl) rfl rfl (ltb rfl) ((extract_step rfl rfl rfl).rd _) ?_
      refine AAny.take (i := 16) rfl (by kernel_rfl) (by kernel_rfl) (by kernel_rfl) rfl rfl (ltb rfl) ((extract_step rfl rfl rfl).rd _) ?_
      refine AAny.one (i := 18) (by kernel_rfl) (AOp.step0 rfl rfl rfl (store_step hG rfl rfl rfl rfl rfl rfl rfl rfl) (by intro x hx; have hx : x ∈ [ID.loc 11] := hx; simp only [List.mem_cons, List.not_mem_nil, or_false] at hx; subst hx; simp) ?_)
      refine AAny.take (i := 19) rfl (by kernel_rfl) (by kernel_rfl) (by kernel_rfl) rfl rfl (ltb rfl) ((move_step (.inr rfl) rfl).rd _) ?_
      refine AAny.done (by kernel_rfl) ?_
      refine run_sub_code (σ' := ⟨[(0, .optr (.bor 0) 0 0), (3, .imm q5 4 f5 (cellss ks5)), (5, .optr (.loc 5) 0 0), (6, .optr (.loc 6) 0 0), (8, .optr (.loc 8) 0 0), (9, .int .i64 0), (10, .int .i64 i6), (11, .optr (.loc 11) 0 0), (12, .int .i64 ra69)], [(11, ⟨29, 4, true, [[.int .i64 k62, .int .i64 n62, .str s62, .imm q62 4 f62 (cellss ks62)]]⟩), (8, ⟨29, 4, true, [[.int .i64 0, .int .i64 0, .str ⟨#[]⟩, .imm 0 4 true []]]⟩), (6, ⟨29, 4, true, [[.int .i64 i12, .int .i64 i13, .str t14, .imm q15 4 f15 (cellss ks15)]]⟩), (5, ⟨29, 4, true, [[.int .i64 i8, .int .i64 i9, .str t10, .imm q11 4 f11 (cellss ks11)]]⟩)], [⟨45, 1, true, [[.int .i64 c66]]⟩], O, tk59⟩) (Sub.env _ ⟨rfl, rfl, rfl, rfl, rfl, rfl, rfl, rfl, rfl, trivial⟩) ?_
      refine run_seq ?_
      refine run_sr ?_
      refine mvL rfl rfl rfl rfl (ltb rfl) ?_
      refine run_bin rfl rfl rfl rfl rfl rfl rfl (ltb rfl) ?_
      refine run_ops_nil ?_
      refine run_ifb rfl rfl (fun hb73 => ?_) (fun hb73 => ?_)
      ·replace hM := ite_t hb73 hM
       refine run_sr ?_
       refine run_pu rfl (build_step hG rfl (by rfl) rfl (fun h => by cases h) (by rfl)) rfl (ltb rfl) ?_
       refine mvL rfl rfl rfl rfl (ltb rfl) ?_
       refine run_op0 rfl (store_step hG rfl rfl rfl rfl rfl rfl rfl rfl) rfl ?_
       refine mvR rfl rfl rfl rfl (ltb rfl) ?_
       refine run_ops_nil ?_
       refine run_ret_to ?_
       obtain rfl := some_t hM
       refine fin_x hG rfl rfl rfl (v' := .tup [.agg [.int .i64 0, .int .i64 0, .str ⟨#[]⟩, .imm 0 4 true (cellss [])], .int .i64 ra69]) (by rfl) ⟨_, ⟨45, 1, true, [[.int .i64 c66]]⟩, rfl, rfl, (show tk ≤ tk59 by omega), ⟨_, _, _, _, c66, rfl, rfl, rfl, ⟨0, 0, ⟨#[]⟩, 0, true, [], rfl, rfl, fun _ => Fr.nil _ _⟩, rfl⟩⟩
      ·replace hM := ite_f hb73 hM
       refine run_skip ?_
       refine run_sr ?_
       refine run_ld hG rfl rfl rfl rfl rfl (ltb rfl) ?_
       refine run_op0 rfl (store_step hG rfl rfl rfl rfl rfl rfl rfl rfl) rfl ?_
       refine run_ops_nil ?_
       refine run_region ?_
       refine run_pu rfl (fieldAddr_step hG rfl rfl rfl rfl rfl) rfl (ltb rfl) ?_
       refine run_ld hG rfl rfl rfl rfl rfl (ltb rfl) ?_
       obtain ⟨y74, hy75, hM⟩ := bind_t hM
       obtain ⟨k76, n76, s76, q76, f76, ks76, rfl, hc77, hi78⟩ := tidx (ks := ks15) hy75
       refine run_pu rfl (indexImm_step hG rfl rfl rfl hi78 rfl rfl rfl rfl hc77) rfl (ltb rfl) ?_
       refine run_ld hG rfl rfl rfl rfl rfl (ltb rfl) ?_
       refine run_op0 rfl (store_step hG rfl rfl rfl rfl rfl rfl rfl rfl) rfl ?_
       refine run_ops_nil ?_
       refine run_blk ?_
       refine run_region ?_
       refine mvL rfl rfl rfl rfl (ltb rfl) ?_
       refine run_bin rfl rfl rfl rfl rfl rfl rfl (ltb rfl) ?_
       refine mvR rfl rfl rfl rfl (ltb rfl) ?_
       refine run_ops_nil ?_
       exact run_loop_end ⟨m, _, Nat.lt_succ_self _, ⟨(IntKind.i64.wrap (i6 + 1)), c66, k62, n62, s62, q62, f62, ks62, k76, n76, s76, q76, f76, ks76, tk59, (show tk ≤ tk59 by omega), hM, rfl⟩, Sub.trans (Sub.drop (k := 11) rfl) (Sub.env [(0, .optr (.bor 0) 0 0), (3, .imm q5 4 f5 (cellss ks5)), (5, .optr (.loc 5) 0 0), (6, .optr (.loc 6) 0 0), (8, .optr (.loc 8) 0 0), (9, .int .i64 0), (10, .int .i64 (IntKind.i64.wrap (i6 + 1)))] ⟨rfl, rfl, rfl, rfl, rfl, rfl, rfl, trivial⟩)⟩
 ·replace hM := ite_f hb16 hM
  refine run_exit_to rfl ?_
  refine run_sr ?_
  refine run_ld hG rfl rfl rfl rfl rfl (ltb rfl) ?_
  obtain ⟨r79, hg80, hM⟩ := bind_t hM
  refine run_call rfl rfl rfl (ltb rfl) rfl rfl rfl (fun _ h => absurd h List.not_mem_nil) (s_l01Copy_ok n i8 i9 t10 q11 f11 ks11 hg80 _ _) (callK_retX (fun v tk81 (hle82 : tks_l03Run_reduce_L1 ≤ tk81) h83 => ?_))
  obtain ⟨k84, n84, s84, q84, f84, ks84, rfl, rfl, hf85⟩ := h83
  refine run_op0 rfl (store_step hG rfl rfl rfl rfl rfl rfl rfl rfl) rfl ?_
  refine mvR rfl rfl rfl rfl (ltb rfl) ?_
  refine run_ops_nil ?_
  refine run_ret_to ?_
  obtain rfl := some_t hM
  refine fin_x hG rfl rfl rfl (v' := .tup [.agg [.int .i64 k84, .int .i64 n84, .str s84, .imm q84 4 f84 (cellss ks84)], .int .i64 0]) (by rfl) ⟨_, ⟨45, 1, true, [[.int .i64 i7]]⟩, rfl, rfl, (show tk ≤ tk81 by omega), ⟨_, _, _, _, i7, rfl, rfl, rfl, ⟨k84, n84, s84, q84, f84, ks84, rfl, rfl, fun _ => (show Fr tk tk81 _ from ((show Fr tks_l03Run_reduce_L1 tk81 _ from hf85 rfl)).mono (by omega) (by omega))⟩, rfl⟩⟩

set_option maxHeartbeats 2000000 in
set_option maxRecDepth 100000 in
theorem s_l03Run_sub_st (n : Nat) (ih_s_l03Run_reduce : ∀ (X0 : ID) (i2 : Int) (k3 : Int) (n3 : Int) (s3 : ByteArray) (q3 : Nat) (f3 : Bool) (ks3 : List LT) (k4 : Int) (n4 : Int) (s4 : ByteArray) (q4 : Nat) (f4 : Bool) (ks4 : List LT) (q5 : Nat) (f5 : Bool) (ks5 : List LT) {r : (T × Int × (Int))}, s_l03Run_reduce n (i2) (T.mk k3 n3 s3 (ers ks3)) (T.mk k4 n4 s4 (ers ks4)) (ers ks5) = some r → ∀ (O : Heap) (tk : Nat), O X0 = some ⟨45, 1, true, [[.int .i64 i2]]⟩ → ACalls Go.Proofs.Tryd.prog 21 [.optr X0 0 0, .agg [.int .i64 k3, .int .i64 n3, .str s3, .imm q3 4 f3 (cellss ks3)], .agg [.int .i64 k4, .int .i64 n4, .str s4, .imm q4 4 f4 (cellss ks4)], .imm q5 4 f5 (cellss ks5)] O tk (RetV O X0 tk (fun v o' tk' => ∃ r0' r1' v0' v1', ∃ (c0 : Int), r = (r0', r1', (c0)) ∧ o' = ⟨45, 1, true, [[.int .i64 c0]]⟩ ∧ v = .tup [v0', v1'] ∧ VT true tk tk' r0' v0' ∧ v1' = .int .i64 r1'))) (ih_s_l03Run_sub : ∀ (X0 : ID) (i2 : Int) (k3 : Int) (n3 : Int) (s3 : ByteArray) (q3 : Nat) (f3 : Bool) (ks3 : List LT) (k4 : Int) (n4 : Int) (s4 : ByteArray) (q4 : Nat) (f4 : Bool) (ks4 : List LT) (k5 : Int) (n5 : Int) (s5 : ByteArray) (q5 : Nat) (f5 : Bool) (ks5 : List LT) (i6 : Int) {r : (T × Int × (Int))}, s_l03Run_sub n (i2) (T.mk k3 n3 s3 (ers ks3)) (T.mk k4 n4 s4 (ers ks4)) (T.mk k5 n5 s5 (ers ks5)) i6 = some r → ∀ (O : Heap) (tk : Nat), O X0 = some ⟨45, 1, true, [[.int .i64 i2]]⟩ → ACalls Go.Proofs.Tryd.prog 32 [.optr X0 0 0, .agg [.int .i64 k3, .int .i64 n3, .str s3, .imm q3 4 f3 (cellss ks3)], .agg [.int .i64 k4, .int .i64 n4, .str s4, .imm q4 4 f4 (cellss ks4)], .agg [.int .i64 k5, .int .i64 n5, .str s5, .imm q5 4 f5 (cellss ks5)], .int .i64 i6] O tk (RetV O X0 tk (fun v o' tk' => ∃ r0' r1' v0' v1', ∃ (c0 : Int), r = (r0', r1', (c0)) ∧ o' = ⟨45, 1, true, [[.int .i64 c0]]⟩ ∧ v = .tup [v0', v1'] ∧ VT true tk tk' r0' v0' ∧ v1' = .int .i64 r1'))) : ∀ (X0 : ID) (i2 : Int) (k3 : Int) (n3 : Int) (s3 : ByteArray) (q3 : Nat) (f3 : Bool) (ks3 : List LT) (k4 : Int) (n4 : Int) (s4 : ByteArray) (q4 : Nat) (f4 : Bool) (ks4 : List LT) (k5 : Int) (n5 : Int) (s5 : ByteArray) (q5 : Nat) (f5 : Bool) (ks5 : List LT) (i6 : Int) {r : (T × Int × (Int))}, s_l03Run_sub (n + 1) (i2) (T.mk k3 n3 s3 (ers ks3)) (T.mk k4 n4 s4 (ers ks4)) (T.mk k5 n5 s5 (ers ks5)) i6 = some r → ∀ (O : Heap) (tk : Nat), O X0 = some ⟨45, 1, true, [[.int .i64 i2]]⟩ → ACalls Go.Proofs.Tryd.prog 32 [.optr X0 0 0, .agg [.int .i64 k3, .int .i64 n3, .str s3, .imm q3 4 f3 (cellss ks3)], .agg [.int .i64 k4, .int .i64 n4, .str s4, .imm q4 4 f4 (cellss ks4)], .agg [.int .i64 k5, .int .i64 n5, .str s5, .imm q5 4 f5 (cellss ks5)], .int .i64 i6] O tk (RetV O X0 tk (fun v o' tk' => ∃ r0' r1' v0' v1', ∃ (c0 : Int), r = (r0', r1', (c0)) ∧ o' = ⟨45, 1, true, [[.int .i64 c0]]⟩ ∧ v = .tup [v0', v1'] ∧ VT true tk tk' r0' v0' ∧ v1' = .int .i64 r1')) := by
 intro X0 i2 k3 n3 s3 q3 f3 ks3 k4 n4 s4 q4 f4 ks4 k5 n5 s5 q5 f5 ks5 i6 r hM O tk hX0
 rw [s_l03Run_sub] at hM
 refine acalls_of_run Go.Proofs.Tryd.func32 rfl rfl [X0] [⟨45, 1, true, [[.int .i64 i2]]⟩] (Bor.one hX0 rfl) [(0, .optr (.bor 0) 0 0), (1, .agg [.int .i64 k3, .int .i64 n3, .str s3, .imm q3 4 f3 (cellss ks3)]), (2, .agg [.int .i64 k4, .int .i64 n4, .str s4, .imm q4 4 f4 (cellss ks4)]), (3, .agg [.int .i64 k5, .int .i64 n5, .str s5, .imm q5 4 f5 (cellss ks5)]), (4, .int .i64 i6)] (.cons (.bor 0 _ _ _ rfl) (.cons (.agg _) (.cons (.agg _) (.cons (.agg _) (.cons (entS rfl) (.nil _)))))) (leb rfl) (by intro y h; simp only [List.mem_cons, List.not_mem_nil, or_false] at h; rcases h with rfl <;> simp [tch, tch0]) (fun S0 hO htk hfz => ?_)
 refine run_sr ?_
 refine run_op rfl (box_step (d := 6) rfl rfl rfl rfl rfl) rfl (ltb rfl) ?_
 refine run_op rfl (box_step (d := 7) rfl rfl rfl rfl rfl) rfl (ltb rfl) ?_
 refine run_op rfl (box_step (d := 8) rfl rfl rfl rfl rfl) rfl (ltb rfl) ?_
 refine run_op rfl (alloc_step (d := 10) hG rfl rfl rfl) rfl (ltb rfl) ?_
 refine mvR rfl rfl rfl rfl (ltb rfl) ?_
 refine run_ops_nil ?_
 refine run_sr ?_
 refine run_op rfl (buildSlice_step (d := 18) hG rfl rfl rfl rfl rfl (by rfl) (by rfl) (by rfl) (by decide)) rfl (ltb rfl) ?_
 refine mvR rfl rfl rfl rfl (ltb rfl) ?_
 refine run_ops_nil ?_
 refine run_seq ?_
 refine run_sr ?_
 refine mvR rfl rfl rfl rfl (ltb rfl) ?_
 refine run_ops_nil ?_
 refine run_block ?_
 refine run_rounds (fun m σ => ∃ (i7 : Int) (i8 : Int) (ks9 : List LT) (tks_l03Run_sub_L1 : Nat), tk ≤ tks_l03Run_sub_L1 ∧ Fr tk tks_l03Run_sub_L1 (ttoks ks9) ∧ s_l03Run_sub_L1 (s_l03Run_reduce n) (s_l03Run_sub n) n (T.mk k3 n3 s3 (ers ks3)) (T.mk k4 n4 s4 (ers ks4)) (T.mk k5 n5 s5 (ers ks5)) i6 m i7 i8 (ers ks9) = some r ∧ σ = ⟨[(0, .optr (.bor 0) 0 0), (4, .int .i64 i6), (6, .optr (.loc 6) 0 0), (7, .optr (.loc 7) 0 0), (8, .optr (.loc 8) 0 0), (10, .optr (.loc 10) 0 0), (11, .int .i64 0), (12, .osl (.loc 18)), (13, .int .i64 i7)], [(18, ⟨29, 4, false, cellss ks9⟩), (10, ⟨29, 4, true, [[.int .i64 0, .int .i64 0, .str ⟨#[]⟩, .imm 0 4 true []]]⟩), (8, ⟨29, 4, true, [[.int .i64 k5, .int .i64 n5, .str s5, .imm q5 4 f5 (cellss ks5)]]⟩), (7, ⟨29, 4, true, [[.int .i64 k4, .int .i64 n4, .str s4, .imm q4 4 f4 (cellss ks4)]]⟩), (6, ⟨29, 4, true, [[.int .i64 k3, .int .i64 n3, .str s3, .imm q3 4 f3 (cellss ks3)]]⟩)], [⟨45, 1, true, [[.int .i64 i8]]⟩], O, tks_l03Run_sub_L1⟩) n (Sub.env [(0, .optr (.bor 0) 0 0), (4, .int .i64 i6), (6, .optr (.loc 6) 0 0), (7, .optr (.loc 7) 0 0), (8, .optr (.loc 8) 0 0), (10, .optr (.loc 10) 0 0), (11, .int .i64 0), (12, .osl (.loc 18)), (13, .int .i64 0)] ⟨rfl, rfl, rfl, rfl, rfl, rfl, rfl, rfl, rfl, trivial⟩) ⟨0, i2, [], tk, Nat.le_refl _, Fr.nil _ _, hM, rfl⟩ (fun m σ hI => ?_)
 clear hM
 obtain ⟨i7, i8, ks9, tks_l03Run_sub_L1, hle146, hfr9, hM, rfl⟩ := hI
 obtain _ | m := m
 ·exact absurd hM (by rw [s_l03Run_sub_L1]; exact fun h => by cases h)
 rw [s_l03Run_sub_L1] at hM
 refine run_seq ?_
 refine run_sr ?_
 refine mvL rfl rfl rfl rfl (ltb rfl) ?_
 refine run_pu rfl (fieldAddr_step hG rfl rfl rfl rfl rfl) rfl (ltb rfl) ?_
 refine run_ld hG rfl rfl rfl rfl rfl (ltb rfl) ?_
 refine run_pu rfl (lenImm_step hG rfl rfl rfl rfl (tlen _)) rfl (ltb rfl) ?_
 refine run_bin rfl rfl rfl rfl rfl rfl rfl (ltb rfl) ?_
 refine run_ops_nil ?_
 refine run_ifd rfl rfl (fun hb10 => ?_) (fun hb10 => ?_)
 ·replace hM := ite_t hb10 hM
  refine run_skip ?_
  refine run_seq ?_
  refine run_block ?_
  refine run_seq ?_
  refine run_draw [.bor 0] (n := 20) mixed rfl (by intro x hx; simp only [List.mem_cons, List.not_mem_nil, or_false] at hx; rcases hx with rfl <;> rfl) ?_
  refine AAny.take (i := 0) rfl (by kernel_rfl) (by kernel_rfl) (by kernel_rfl) rfl rfl (ltb rfl) ((move_step (.inl rfl) rfl).rd _) ?_
  refine AAny.take (i := 1) rfl (by kernel_rfl) (by kernel_rfl) (by kernel_rfl) rfl rfl (ltb rfl) (aload_rd hG rfl rfl rfl (by first | (simp [ldok]; done) | exact List.not_mem_nil | trivial)) ?_
  refine AAny.take (i := 2) rfl (by kernel_rfl) (by kernel_rfl) (by kernel_rfl) rfl rfl (ltb rfl) (aload_rd hG rfl rfl rfl (by first | (simp [ldok]; done) | exact List.not_mem_nil | trivial)) ?_
  refine AAny.take (i := 3) rfl (by kernel_rfl) (by kernel_rfl) (by kernel_rfl) rfl rfl (ltb rfl) ((fieldAddr_step hG rfl rfl rfl rfl rfl).rd _) ?_
  refine AAny.take (i := 4) rfl (by kernel_rfl) (by kernel_rfl) (by kernel_rfl) rfl rfl (ltb rfl) (aload_rd hG rfl rfl rfl (by first | (simp [ldok]; done) | exact List.not_mem_nil | trivial)) ?_
  refine AAny.take (i := 5) rfl (by kernel_rfl) (by kernel_rfl) (by kernel_rfl) rfl rfl (ltb rfl) ((move_step (.inl rfl) rfl).rd _) ?_
  obtain ⟨y11, hy12, hM⟩ := bind_t hM
  obtain ⟨k13, n13, s13, q13, f13, ks13, rfl, hc14, hi15⟩ := tidx (ks := ks5) hy12
  refine AAny.take (i := 6) rfl (by kernel_rfl) (by kernel_rfl) (by kernel_rfl) rfl rfl (ltb rfl) ((indexImm_step hG rfl rfl rfl hi15 rfl rfl rfl rfl hc14).rd _) ?_
  refine AAny.take (i := 7) rfl (by kernel_rfl) (by kernel_rfl) (by kernel_rfl) rfl rfl (ltb rfl) (aload_rd hG rfl rfl rfl (by first | (simp [ldok]; done) | exact List.not_mem_nil | trivial)) ?_
  refine AAny.take (i := 8) rfl (by kernel_rfl) (by kernel_rfl) (by kernel_rfl) rfl rfl (ltb rfl) ((move_step (.inl rfl) rfl).rd _) ?_
  refine AAny.take (i := 9) rfl (by kernel_rfl) (by kernel_rfl) (by kernel_rfl) rfl rfl (ltb rfl) (aload_rd hG rfl rfl rfl (by first | (simp [ldok]; done) | exact List.not_mem_nil | trivial)) ?_
  refine AAny.take (i := 10) rfl (by kernel_rfl) (by kernel_rfl) (by kernel_rfl) rfl rfl (ltb rfl) ((move_step (.inl rfl) rfl).rd _) ?_
  refine AAny.eachN (rs := [11, 17]) (by kernel_rfl) (fun h => by cases h) (fun i hi => ?_)
  simp only [List.mem_cons, List.not_mem_nil, or_false] at hi
  rcases hi with rfl | rfl
  ·refine AOpN.of ?_
   obtain ⟨r16, hg17, hM⟩ := bind_t hM
   refine AOp.call rfl rfl rfl rfl (ltb rfl) rfl rfl rfl (fun _ h => absurd h List.not_mem_nil) (fun _ h => absurd h List.not_mem_nil) (s_l01Under_ok k5 n5 s5 q5 f5 ks5 i7 hg17 _ _) (callK_retX (fun v tk18 (hle19 : tks_l03Run_sub_L1 ≤ tk18) h20 => ?_))
   subst h20
   refine AAny.take (i := 12) rfl (by kernel_rfl) (by kernel_rfl) (by kernel_rfl) rfl rfl (ltb rfl) ((abin_step rfl rfl rfl rfl (fun _ h => by cases h)).rd _) ?_
   refine AAny.eachN (rs := [13, 17]) (by kernel_rfl) (fun h => by cases h) (fun i hi => ?_)
   simp only [List.mem_cons, List.not_mem_nil, or_false] at hi
   rcases hi with rfl | rfl
   ·refine AOpN.of ?_
    obtain ⟨r23, hg24, hM⟩ := bind_t hM
    refine AOp.call rfl rfl rfl rfl (ltb rfl) rfl rfl rfl (fun _ h => absurd h List.not_mem_nil) (by intro x hx; have hx : x ∈ [ID.bor 0] := hx; simp only [List.mem_cons, List.not_mem_nil, or_false] at hx; subst hx; simp) (ih_s_l03Run_sub (.bor 0) i8 k3 n3 s3 q3 f3 ks3 k4 n4 s4 q4 f4 ks4 k13 n13 s13 q13 f13 ks13 (IntKind.i64.wrap (i6 + r16)) hg24 _ _ rfl) (callK_retV_bor (k := 0) rfl (fun v o' tk' h => by obtain ⟨_, _, _, _, _, rfl, rfl, _⟩ := h; rfl) (fun v o'38 tk25 (hle26 : tk18 ≤ tk25) h27 => ?_))
    obtain ⟨ra34, ra35, va36, va37, c32, rfl, rfl, rfl, ⟨k28, n28, s28, q28, f28, ks28, rfl, rfl, hf29⟩, rfl⟩ := h27
    refine AAny.take (i := 14) rfl (by kernel_rfl) (by kernel_rfl) (by kernel_rfl) rfl rfl (ltb rfl) ((move_step (.inl rfl) rfl).rd _) ?_
    refine AAny.take (i := 15) rfl (by kernel_rfl) (by kernel_rfl) (by kernel_rfl) rfl rfl (ltb rfl) ((extract_step rfl rfl rfl).rd _) ?_
    refine AAny.take (i := 16) rfl (by kernel_rfl) (by kernel_rfl) (by kernel_rfl) rfl rfl (ltb rfl) ((extract_step rfl rfl rfl).rd _) ?_
    refine AAny.eachN (rs := [17]) (by kernel_rfl) (fun h => by cases h) (fun i hi => ?_)
    simp only [List.mem_cons, List.not_mem_nil, or_false] at hi
    subst hi
    ·refine AOpN.alloc hG rfl rfl rfl (ltb rfl) rfl rfl rfl ?_
     refine AAny.one (i := 18) (by kernel_rfl) (AOp.step0 rfl rfl rfl (store_step hG rfl rfl rfl rfl rfl rfl rfl rfl) (by intro x hx; have hx : x ∈ [ID.loc 14] := hx; simp only [List.mem_cons, List.not_mem_nil, or_false] at hx; subst hx; simp) ?_)
     refine AAny.take (i := 19) rfl (by kernel_rfl) (by kernel_rfl) (by kernel_rfl) rfl rfl (ltb rfl) ((move_step (.inr rfl) rfl).rd _) ?_
     refine AAny.done (by kernel_rfl) ?_
     refine run_sub_code (σ' := ⟨[(0, .optr (.bor 0) 0 0), (4, .int .i64 i6), (6, .optr (.loc 6) 0 0), (7, .optr (.loc 7) 0 0), (8, .optr (.loc 8) 0 0), (10, .optr (.loc 10) 0 0), (11, .int .i64 0), (12, .osl (.loc 18)), (13, .int .i64 i7), (14, .optr (.loc 14) 0 0), (15, .int .i64 ra35)], [(14, ⟨29, 4, true, [[.int .i64 k28, .int .i64 n28, .str s28, .imm q28 4 f28 (cellss ks28)]]⟩), (18, ⟨29, 4, false, cellss ks9⟩), (10, ⟨29, 4, true, [[.int .i64 0, .int .i64 0, .str ⟨#[]⟩, .imm 0 4 true []]]⟩), (8, ⟨29, 4, true, [[.int .i64 k5, .int .i64 n5, .str s5, .imm q5 4 f5 (cellss ks5)]]⟩), (7, ⟨29, 4, true, [[.int .i64 k4, .int .i64 n4, .str s4, .imm q4 4 f4 (cellss ks4)]]⟩), (6, ⟨29, 4, true, [[.int .i64 k3, .int .i64 n3, .str s3, .imm q3 4 f3 (cellss ks3)]]⟩)], [⟨45, 1, true, [[.int .i64 c32]]⟩], O, tk25⟩) (Sub.env _ ⟨rfl, rfl, rfl, rfl, rfl, rfl, rfl, rfl, rfl, rfl, rfl, trivial⟩) ?_
     refine run_seq ?_
     refine run_sr ?_
     refine mvL rfl rfl rfl rfl (ltb rfl) ?_
     refine run_bin rfl rfl rfl rfl rfl rfl rfl (ltb rfl) ?_
     refine run_ops_nil ?_
     refine run_ifb rfl rfl (fun hb39 => ?_) (fun hb39 => ?_)
     ·replace hM := ite_t hb39 hM
      refine run_sr ?_
      refine run_pu rfl (build_step hG rfl (by rfl) rfl (fun h => by cases h) (by rfl)) rfl (ltb rfl) ?_
      refine mvL rfl rfl rfl rfl (ltb rfl) ?_
      refine run_op0 rfl (store_step hG rfl rfl rfl rfl rfl rfl rfl rfl) rfl ?_
      refine mvR rfl rfl rfl rfl (ltb rfl) ?_
      refine run_ops_nil ?_
      refine run_ret_to ?_
      obtain rfl := some_t hM
      refine fin_x hG rfl rfl rfl (v' := .tup [.agg [.int .i64 0, .int .i64 0, .str ⟨#[]⟩, .imm 0 4 true (cellss [])], .int .i64 ra35]) (by rfl) ⟨_, ⟨45, 1, true, [[.int .i64 c32]]⟩, rfl, rfl, (show tk ≤ tk25 by omega), ⟨_, _, _, _, c32, rfl, rfl, rfl, ⟨0, 0, ⟨#[]⟩, 0, true, [], rfl, rfl, fun _ => Fr.nil _ _⟩, rfl⟩⟩
     ·replace hM := ite_f hb39 hM
      refine run_skip ?_
      refine run_region ?_
      refine mvL rfl rfl rfl rfl (ltb rfl) ?_
      refine run_ld hG rfl rfl rfl rfl rfl (ltb rfl) ?_
      refine run_op rfl (buildSlice_step (d := 49) hG rfl rfl rfl rfl rfl (by rfl) (by rfl) (by rfl) (by decide)) rfl (ltb rfl) ?_
      obtain ⟨hc40, hM⟩ := chk_t hM
      try rw [show ((ers ks9) ++ [(T.mk k28 n28 s28 (ers ks28))] : List T) = (ers (ks9 ++ [LT.mk k28 n28 s28 q28 f28 ks28])) from ers_app ks9 [LT.mk k28 n28 s28 q28 f28 ks28]] at hM
      refine run_op rfl (appendM_step hG rfl rfl rfl rfl rfl rfl rfl rfl rfl rfl rfl (cellss_sz ([LT.mk k28 n28 s28 q28 f28 ks28])) (tlen ks9) (tlen ([LT.mk k28 n28 s28 q28 f28 ks28])) hc40 (by decide) (cellss_app _ _)) rfl (ltb rfl) ?_
      refine mvR rfl rfl rfl rfl (ltb rfl) ?_
      refine run_ops_nil ?_
      refine run_blk ?_
      refine run_region ?_
      refine mvL rfl rfl rfl rfl (ltb rfl) ?_
      refine run_bin rfl rfl rfl rfl rfl rfl rfl (ltb rfl) ?_
      refine mvR rfl rfl rfl rfl (ltb rfl) ?_
      refine run_ops_nil ?_
      exact run_loop_end ⟨m, _, Nat.lt_succ_self _, ⟨(IntKind.i64.wrap (i7 + 1)), c32, (ks9 ++ [LT.mk k28 n28 s28 q28 f28 ks28]), tk25, (show tk ≤ tk25 by omega), (show Fr tk tk25 _ from (Fr.tsnoc (show Fr tk tk18 _ from (hfr9).mono (by omega) (by omega)) ((show Fr tk18 tk25 _ from hf29 rfl)) (by omega) (by omega)).mono (by omega) (by omega)), hM, rfl⟩, Sub.trans (Sub.drop (k := 49) rfl) (Sub.trans (Sub.drop (k := 14) rfl) (Sub.env [(0, .optr (.bor 0) 0 0), (4, .int .i64 i6), (6, .optr (.loc 6) 0 0), (7, .optr (.loc 7) 0 0), (8, .optr (.loc 8) 0 0), (10, .optr (.loc 10) 0 0), (11, .int .i64 0), (12, .osl (.loc 18)), (13, .int .i64 (IntKind.i64.wrap (i7 + 1)))] ⟨rfl, rfl, rfl, rfl, rfl, rfl, rfl, rfl, rfl, trivial⟩))⟩
   ·refine AOpN.alloc hG rfl rfl rfl (ltb rfl) rfl rfl rfl ?_
    obtain ⟨r41, hg42, hM⟩ := bind_t hM
    refine AAny.one (i := 13) (by kernel_rfl) (AOp.call rfl rfl rfl rfl (ltb rfl) rfl rfl rfl (fun _ h => absurd h List.not_mem_nil) (by intro x hx; have hx : x ∈ [ID.bor 0] := hx; simp only [List.mem_cons, List.not_mem_nil, or_false] at hx; subst hx; simp) (ih_s_l03Run_sub (.bor 0) i8 k3 n3 s3 q3 f3 ks3 k4 n4 s4 q4 f4 ks4 k13 n13 s13 q13 f13 ks13 (IntKind.i64.wrap (i6 + r16)) hg42 _ _ rfl) (callK_retV_bor (k := 0) rfl (fun v o' tk' h => by obtain ⟨_, _, _, _, _, rfl, rfl, _⟩ := h; rfl) (fun v o'56 tk43 (hle44 : tk18 ≤ tk43) h45 => ?_)))
    obtain ⟨ra52, ra53, va54, va55, c50, rfl, rfl, rfl, ⟨k46, n46, s46, q46, f46, ks46, rfl, rfl, hf47⟩, rfl⟩ := h45
    refine AAny.take (i := 14) rfl (by kernel_rfl) (by kernel_rfl) (by kernel_rfl) rfl rfl (ltb rfl) ((move_step (.inl rfl) rfl).rd _) ?_
    refine AAny.take (i := 15) rfl (by kernel_rfl) (by kernel_rfl) (by kernel_rfl) rfl rfl (ltb rfl) ((extract_step rfl rfl rfl).rd _) ?_
    refine AAny.take (i := 16) rfl (by kernel_rfl) (by kernel_rfl) (by kernel_rfl) rfl rfl (ltb rfl) ((extract_step rfl rfl rfl).rd _) ?_
    refine AAny.one (i := 18) (by kernel_rfl) (AOp.step0 rfl rfl rfl (store_step hG rfl rfl rfl rfl rfl rfl rfl rfl) (by intro x hx; have hx : x ∈ [ID.loc 14] := hx; simp only [List.mem_cons, List.not_mem_nil, or_false] at hx; subst hx; simp) ?_)
    refine AAny.take (i := 19) rfl (by kernel_rfl) (by kernel_rfl) (by kernel_rfl) rfl rfl (ltb rfl) ((move_step (.inr rfl) rfl).rd _) ?_
    refine AAny.done (by kernel_rfl) ?_
    refine run_sub_code (σ' := ⟨[(0, .optr (.bor 0) 0 0), (4, .int .i64 i6), (6, .optr (.loc 6) 0 0), (7, .optr (.loc 7) 0 0), (8, .optr (.loc 8) 0 0), (10, .optr (.loc 10) 0 0), (11, .int .i64 0), (12, .osl (.loc 18)), (13, .int .i64 i7), (14, .optr (.loc 14) 0 0), (15, .int .i64 ra53)], [(14, ⟨29, 4, true, [[.int .i64 k46, .int .i64 n46, .str s46, .imm q46 4 f46 (cellss ks46)]]⟩), (18, ⟨29, 4, false, cellss ks9⟩), (10, ⟨29, 4, true, [[.int .i64 0, .int .i64 0, .str ⟨#[]⟩, .imm 0 4 true []]]⟩), (8, ⟨29, 4, true, [[.int .i64 k5, .int .i64 n5, .str s5, .imm q5 4 f5 (cellss ks5)]]⟩), (7, ⟨29, 4, true, [[.int .i64 k4, .int .i64 n4, .str s4, .imm q4 4 f4 (cellss ks4)]]⟩), (6, ⟨29, 4, true, [[.int .i64 k3, .int .i64 n3, .str s3, .imm q3 4 f3 (cellss ks3)]]⟩)], [⟨45, 1, true, [[.int .i64 c50]]⟩], O, tk43⟩) (Sub.env _ ⟨rfl, rfl, rfl, rfl, rfl, rfl, rfl, rfl, rfl, rfl, rfl, trivial⟩) ?_
    refine run_seq ?_
    refine run_sr ?_
    refine mvL rfl rfl rfl rfl (ltb rfl) ?_
    refine run_bin rfl rfl rfl rfl rfl rfl rfl (ltb rfl) ?_
    refine run_ops_nil ?_
    refine run_ifb rfl rfl (fun hb57 => ?_) (fun hb57 => ?_)
    ·replace hM := ite_t hb57 hM
     refine run_sr ?_
     refine run_pu rfl (build_step hG rfl (by rfl) rfl (fun h => by cases h) (by rfl)) rfl (ltb rfl) ?_
     refine mvL rfl rfl rfl rfl (ltb rfl) ?_
     refine run_op0 rfl (store_step hG rfl rfl rfl rfl rfl rfl rfl rfl) rfl ?_
     refine mvR rfl rfl rfl rfl (ltb rfl) ?_
     refine run_ops_nil ?_
     refine run_ret_to ?_
     obtain rfl := some_t hM
     refine fin_x hG rfl rfl rfl (v' := .tup [.agg [.int .i64 0, .int .i64 0, .str ⟨#[]⟩, .imm 0 4 true (cellss [])], .int .i64 ra53]) (by rfl) ⟨_, ⟨45, 1, true, [[.int .i64 c50]]⟩, rfl, rfl, (show tk ≤ tk43 by omega), ⟨_, _, _, _, c50, rfl, rfl, rfl, ⟨0, 0, ⟨#[]⟩, 0, true, [], rfl, rfl, fun _ => Fr.nil _ _⟩, rfl⟩⟩
    ·replace hM := ite_f hb57 hM
     refine run_skip ?_
     refine run_region ?_
     refine mvL rfl rfl rfl rfl (ltb rfl) ?_
     refine run_ld hG rfl rfl rfl rfl rfl (ltb rfl) ?_
     refine run_op rfl (buildSlice_step (d := 49) hG rfl rfl rfl rfl rfl (by rfl) (by rfl) (by rfl) (by decide)) rfl (ltb rfl) ?_
     obtain ⟨hc58, hM⟩ := chk_t hM
     try rw [show ((ers ks9) ++ [(T.mk k46 n46 s46 (ers ks46))] : List T) = (ers (ks9 ++ [LT.mk k46 n46 s46 q46 f46 ks46])) from ers_app ks9 [LT.mk k46 n46 s46 q46 f46 ks46]] at hM
     refine run_op rfl (appendM_step hG rfl rfl rfl rfl rfl rfl rfl rfl rfl rfl rfl (cellss_sz ([LT.mk k46 n46 s46 q46 f46 ks46])) (tlen ks9) (tlen ([LT.mk k46 n46 s46 q46 f46 ks46])) hc58 (by decide) (cellss_app _ _)) rfl (ltb rfl) ?_
     refine mvR rfl rfl rfl rfl (ltb rfl) ?_
     refine run_ops_nil ?_
     refine run_blk ?_
     refine run_region ?_
     refine mvL rfl rfl rfl rfl (ltb rfl) ?_
     refine run_bin rfl rfl rfl rfl rfl rfl rfl (ltb rfl) ?_
     refine mvR rfl rfl rfl rfl (ltb rfl) ?_
     refine run_ops_nil ?_
     exact run_loop_end ⟨m, _, Nat.lt_succ_self _, ⟨(IntKind.i64.wrap (i7 + 1)), c50, (ks9 ++ [LT.mk k46 n46 s46 q46 f46 ks46]), tk43, (show tk ≤ tk43 by omega), (show Fr tk tk43 _ from (Fr.tsnoc (show Fr tk tk18 _ from (hfr9).mono (by omega) (by omega)) ((show Fr tk18 tk43 _ from hf47 rfl)) (by omega) (by omega)).mono (by omega) (by omega)), hM, rfl⟩, Sub.trans (Sub.drop (k := 49) rfl) (Sub.trans (Sub.drop (k := 14) rfl) (Sub.env [(0, .optr (.bor 0) 0 0), (4, .int .i64 i6), (6, .optr (.loc 6) 0 0), (7, .optr (.loc 7) 0 0), (8, .optr (.loc 8) 0 0), (10, .optr (.loc 10) 0 0), (11, .int .i64 0), (12, .osl (.loc 18)), (13, .int .i64 (IntKind.i64.wrap (i7 + 1)))] ⟨rfl, rfl, rfl, rfl, rfl, rfl, rfl, rfl, rfl, trivial⟩))⟩
  ·refine AOpN.alloc hG rfl rfl rfl (ltb rfl) rfl rfl rfl ?_
   obtain ⟨r59, hg60, hM⟩ := bind_t hM
   refine AAny.one (i := 11) (by kernel_rfl) (AOp.call rfl rfl rfl rfl (ltb rfl) rfl rfl rfl (fun _ h => absurd h List.not_mem_nil) (fun _ h => absurd h List.not_mem_nil) (s_l01Under_ok k5 n5 s5 q5 f5 ks5 i7 hg60 _ _) (callK_retX (fun v tk61 (hle62 : tks_l03Run_sub_L1 ≤ tk61) h63 => ?_)))
   subst h63
   refine AAny.take (i := 12) rfl (by kernel_rfl) (by kernel_rfl) (by kernel_rfl) rfl rfl (ltb rfl) ((abin_step rfl rfl rfl rfl (fun _ h => by cases h)).rd _) ?_
   obtain ⟨r66, hg67, hM⟩ := bind_t hM
   refine AAny.one (i := 13) (by kernel_rfl) (AOp.call rfl rfl rfl rfl (ltb rfl) rfl rfl rfl (fun _ h => absurd h List.not_mem_nil) (by intro x hx; have hx : x ∈ [ID.bor 0] := hx; simp only [List.mem_cons, List.not_mem_nil, or_false] at hx; subst hx; simp) (ih_s_l03Run_sub (.bor 0) i8 k3 n3 s3 q3 f3 ks3 k4 n4 s4 q4 f4 ks4 k13 n13 s13 q13 f13 ks13 (IntKind.i64.wrap (i6 + r59)) hg67 _ _ rfl) (callK_retV_bor (k := 0) rfl (fun v o' tk' h => by obtain ⟨_, _, _, _, _, rfl, rfl, _⟩ := h; rfl) (fun v o'81 tk68 (hle69 : tk61 ≤ tk68) h70 => ?_)))
   obtain ⟨ra77, ra78, va79, va80, c75, rfl, rfl, rfl, ⟨k71, n71, s71, q71, f71, ks71, rfl, rfl, hf72⟩, rfl⟩ := h70
   refine AAny.take (i := 14) rfl (by kernel_rfl) (by kernel_rfl) (by kernel_rfl) rfl rfl (ltb rfl) ((move_step (.inl rfl) rfl).rd _) ?_
   refine AAny.take (i := 15) rfl (by kernel_rfl) (by kernel_rfl) (by kernel_rfl) rfl rfl (ltb rfl) ((extract_step rfl rfl rfl).rd _) ?_
   refine AAny.take (i := 16) rfl (by kernel_rfl) (by kernel_rfl) (by kernel_rfl) rfl rfl (ltb rfl) ((extract_step rfl rfl rfl).rd _) ?_
   refine AAny.one (i := 18) (by kernel_rfl) (AOp.step0 rfl rfl rfl (store_step hG rfl rfl rfl rfl rfl rfl rfl rfl) (by intro x hx; have hx : x ∈ [ID.loc 14] := hx; simp only [List.mem_cons, List.not_mem_nil, or_false] at hx; subst hx; simp) ?_)
   refine AAny.take (i := 19) rfl (by kernel_rfl) (by kernel_rfl) (by kernel_rfl) rfl rfl (ltb rfl) ((move_step (.inr rfl) rfl).rd _) ?_
   refine AAny.done (by kernel_rfl) ?_
   refine run_sub_code (σ' := ⟨[(0, .optr (.bor 0) 0 0), (4, .int .i64 i6), (6, .optr (.loc 6) 0 0), (7, .optr (.loc 7) 0 0), (8, .optr (.loc 8) 0 0), (10, .optr (.loc 10) 0 0), (11, .int .i64 0), (12, .osl (.loc 18)), (13, .int .i64 i7), (14, .optr (.loc 14) 0 0), (15, .int .i64 ra78)], [(14, ⟨29, 4, true, [[.int .i64 k71, .int .i64 n71, .str s71, .imm q71 4 f71 (cellss ks71)]]⟩), (18, ⟨29, 4, false, cellss ks9⟩), (10, ⟨29, 4, true, [[.int .i64 0, .int .i64 0, .str ⟨#[]⟩, .imm 0 4 true []]]⟩), (8, ⟨29, 4, true, [[.int .i64 k5, .int .i64 n5, .str s5, .imm q5 4 f5 (cellss ks5)]]⟩), (7, ⟨29, 4, true, [[.int .i64 k4, .int .i64 n4, .str s4, .imm q4 4 f4 (cellss ks4)]]⟩), (6, ⟨29, 4, true, [[.int .i64 k3, .int .i64 n3, .str s3, .imm q3 4 f3 (cellss ks3)]]⟩)], [⟨45, 1, true, [[.int .i64 c75]]⟩], O, tk68⟩) (Sub.env _ ⟨rfl, rfl, rfl, rfl, rfl, rfl, rfl, rfl, rfl, rfl, rfl, trivial⟩) ?_
   refine run_seq ?_
   refine run_sr ?_
   refine mvL rfl rfl rfl rfl (ltb rfl) ?_
   refine run_bin rfl rfl rfl rfl rfl rfl rfl (ltb rfl) ?_
   refine run_ops_nil ?_
   refine run_ifb rfl rfl (fun hb82 => ?_) (fun hb82 => ?_)
   ·replace hM := ite_t hb82 hM
    refine run_sr ?_
    refine run_pu rfl (build_step hG rfl (by rfl) rfl (fun h => by cases h) (by rfl)) rfl (ltb rfl) ?_
    refine mvL rfl rfl rfl rfl (ltb rfl) ?_
    refine run_op0 rfl (store_step hG rfl rfl rfl rfl rfl rfl rfl rfl) rfl ?_
    refine mvR rfl rfl rfl rfl (ltb rfl) ?_
    refine run_ops_nil ?_
    refine run_ret_to ?_
    obtain rfl := some_t hM
    refine fin_x hG rfl rfl rfl (v' := .tup [.agg [.int .i64 0, .int .i64 0, .str ⟨#[]⟩, .imm 0 4 true (cellss [])], .int .i64 ra78]) (by rfl) ⟨_, ⟨45, 1, true, [[.int .i64 c75]]⟩, rfl, rfl, (show tk ≤ tk68 by omega), ⟨_, _, _, _, c75, rfl, rfl, rfl, ⟨0, 0, ⟨#[]⟩, 0, true, [], rfl, rfl, fun _ => Fr.nil _ _⟩, rfl⟩⟩
   ·replace hM := ite_f hb82 hM
    refine run_skip ?_
    refine run_region ?_
    refine mvL rfl rfl rfl rfl (ltb rfl) ?_
    refine run_ld hG rfl rfl rfl rfl rfl (ltb rfl) ?_
    refine run_op rfl (buildSlice_step (d := 49) hG rfl rfl rfl rfl rfl (by rfl) (by rfl) (by rfl) (by decide)) rfl (ltb rfl) ?_
    obtain ⟨hc83, hM⟩ := chk_t hM
    try rw [show ((ers ks9) ++ [(T.mk k71 n71 s71 (ers ks71))] : List T) = (ers (ks9 ++ [LT.mk k71 n71 s71 q71 f71 ks71])) from ers_app ks9 [LT.mk k71 n71 s71 q71 f71 ks71]] at hM
    refine run_op rfl (appendM_step hG rfl rfl rfl rfl rfl rfl rfl rfl rfl rfl rfl (cellss_sz ([LT.mk k71 n71 s71 q71 f71 ks71])) (tlen ks9) (tlen ([LT.mk k71 n71 s71 q71 f71 ks71])) hc83 (by decide) (cellss_app _ _)) rfl (ltb rfl) ?_
    refine mvR rfl rfl rfl rfl (ltb rfl) ?_
    refine run_ops_nil ?_
    refine run_blk ?_
    refine run_region ?_
    refine mvL rfl rfl rfl rfl (ltb rfl) ?_
    refine run_bin rfl rfl rfl rfl rfl rfl rfl (ltb rfl) ?_
    refine mvR rfl rfl rfl rfl (ltb rfl) ?_
    refine run_ops_nil ?_
    exact run_loop_end ⟨m, _, Nat.lt_succ_self _, ⟨(IntKind.i64.wrap (i7 + 1)), c75, (ks9 ++ [LT.mk k71 n71 s71 q71 f71 ks71]), tk68, (show tk ≤ tk68 by omega), (show Fr tk tk68 _ from (Fr.tsnoc (show Fr tk tk61 _ from (hfr9).mono (by omega) (by omega)) ((show Fr tk61 tk68 _ from hf72 rfl)) (by omega) (by omega)).mono (by omega) (by omega)), hM, rfl⟩, Sub.trans (Sub.drop (k := 49) rfl) (Sub.trans (Sub.drop (k := 14) rfl) (Sub.env [(0, .optr (.bor 0) 0 0), (4, .int .i64 i6), (6, .optr (.loc 6) 0 0), (7, .optr (.loc 7) 0 0), (8, .optr (.loc 8) 0 0), (10, .optr (.loc 10) 0 0), (11, .int .i64 0), (12, .osl (.loc 18)), (13, .int .i64 (IntKind.i64.wrap (i7 + 1)))] ⟨rfl, rfl, rfl, rfl, rfl, rfl, rfl, rfl, rfl, trivial⟩))⟩
 ·replace hM := ite_f hb10 hM
  refine run_exit_to rfl ?_
  refine run_seq ?_
  refine run_seq ?_
  obtain ⟨j84, hj145, hM⟩ := jn_t hM
  refine run_cutL [.code _, .code _] (fun σ' => ∃ (tkj84 : Nat), tks_l03Run_sub_L1 ≤ tkj84 ∧ j84 = some r ∧ Sub ⟨Go.Proofs.Tryd.prog, S0, Go.Proofs.Tryd.f32.ntmps, [X0], fun _ => False, []⟩ σ' ⟨[(4, .int .i64 i6), (8, .optr (.loc 8) 0 0), (10, .optr (.loc 10) 0 0), (11, .int .i64 0), (12, .osl (.loc 18))], [(18, ⟨29, 4, false, cellss ks9⟩), (10, ⟨29, 4, true, [[.int .i64 0, .int .i64 0, .str ⟨#[]⟩, .imm 0 4 true []]]⟩), (8, ⟨29, 4, true, [[.int .i64 k5, .int .i64 n5, .str s5, .imm q5 4 f5 (cellss ks5)]]⟩), (7, ⟨29, 4, true, [[.int .i64 k4, .int .i64 n4, .str s4, .imm q4 4 f4 (cellss ks4)]]⟩), (6, ⟨29, 4, true, [[.int .i64 k3, .int .i64 n3, .str s3, .imm q3 4 f3 (cellss ks3)]]⟩)], [⟨45, 1, true, [[.int .i64 i8]]⟩], O, tkj84⟩) rfl ?_ ?_
  ·refine run_region ?_
   refine run_pu rfl (fieldAddr_step hG rfl rfl rfl rfl rfl) rfl (ltb rfl) ?_
   refine run_ld hG rfl rfl rfl rfl rfl (ltb rfl) ?_
   refine run_bin rfl rfl rfl rfl rfl rfl rfl (ltb rfl) ?_
   refine mvL rfl rfl rfl rfl (ltb rfl) ?_
   refine run_splitd (i := 54) rfl (fun hb85 => ?_) (fun hb85 => ?_)
   ·replace hM := ite_t hb85 hM
    refine run_puG (on_of rfl rfl rfl rfl) (fieldAddr_step hG rfl rfl rfl rfl rfl) rfl (ltb rfl) ?_
    refine run_rdG (on_of rfl rfl rfl rfl) (aload_rd hG rfl rfl rfl (by first | (simp [ldok]; done) | exact List.not_mem_nil | trivial)) rfl (ltb rfl) ?_
    refine run_puG (on_of rfl rfl rfl rfl) (move_step (.inl rfl) rfl) rfl (ltb rfl) ?_
    refine run_puG (on_of rfl rfl rfl rfl) (abin_step rfl rfl rfl rfl (fun _ h => by cases h)) rfl (ltb rfl) ?_
    refine run_pu rfl (pick_step rfl rfl rfl) rfl (ltb rfl) ?_
    refine run_ops_nil ?_
    refine run_sub_code (σ' := ⟨[(0, .optr (.bor 0) 0 0), (4, .int .i64 i6), (6, .optr (.loc 6) 0 0), (7, .optr (.loc 7) 0 0), (8, .optr (.loc 8) 0 0), (10, .optr (.loc 10) 0 0), (11, .int .i64 0), (12, .osl (.loc 18)), (59, .bool (n5 == i6))], [(18, ⟨29, 4, false, cellss ks9⟩), (10, ⟨29, 4, true, [[.int .i64 0, .int .i64 0, .str ⟨#[]⟩, .imm 0 4 true []]]⟩), (8, ⟨29, 4, true, [[.int .i64 k5, .int .i64 n5, .str s5, .imm q5 4 f5 (cellss ks5)]]⟩), (7, ⟨29, 4, true, [[.int .i64 k4, .int .i64 n4, .str s4, .imm q4 4 f4 (cellss ks4)]]⟩), (6, ⟨29, 4, true, [[.int .i64 k3, .int .i64 n3, .str s3, .imm q3 4 f3 (cellss ks3)]]⟩)], [⟨45, 1, true, [[.int .i64 i8]]⟩], O, tks_l03Run_sub_L1⟩) (Sub.env _ ⟨rfl, rfl, rfl, rfl, rfl, rfl, rfl, rfl, rfl, trivial⟩) ?_
    refine run_ifd rfl rfl (fun hb86 => ?_) (fun hb86 => ?_)
    ·replace hM := ite_t hb86 hM
     refine run_sr ?_
     refine run_ld hG rfl rfl rfl rfl rfl (ltb rfl) ?_
     refine mvL rfl rfl rfl rfl (ltb rfl) ?_
     obtain ⟨r87, hg88, hM⟩ := bind_t hM
     refine run_call rfl rfl rfl (ltb rfl) rfl rfl rfl (fun _ h => absurd h List.not_mem_nil) (s_l01Lift_ok n k3 n3 s3 q3 f3 ks3 0 i6 hg88 _ _) (callK_retX (fun v tk89 (hle90 : tks_l03Run_sub_L1 ≤ tk89) h91 => ?_))
     obtain ⟨k92, n92, s92, q92, f92, ks92, rfl, rfl, hf93⟩ := h91
     refine run_op rfl (alloc_step (d := 16) hG rfl rfl rfl) rfl (ltb rfl) ?_
     refine run_op0 rfl (store_step hG rfl rfl rfl rfl rfl rfl rfl rfl) rfl ?_
     refine run_ops_nil ?_
     refine run_seq ?_
     refine run_sr ?_
     refine run_ld hG rfl rfl rfl rfl rfl (ltb rfl) ?_
     obtain ⟨r94, hg95, hM⟩ := bind_t hM
     refine run_call rfl rfl rfl (ltb rfl) rfl rfl rfl (fun _ h => absurd h List.not_mem_nil) (s_l03Big_ok n k92 n92 s92 q92 f92 ks92 hg95 _ _) (callK_retX (fun v tk96 (hle97 : tk89 ≤ tk96) h98 => ?_))
     subst h98
     refine run_ops_nil ?_
     refine run_ifb rfl rfl (fun hb101 => ?_) (fun hb101 => ?_)
     ·replace hM := ite_t hb101 hM
      refine run_sr ?_
      refine run_pu rfl (build_step hG rfl (by rfl) rfl (fun h => by cases h) (by rfl)) rfl (ltb rfl) ?_
      refine run_op0 rfl (store_step hG rfl rfl rfl rfl rfl rfl rfl rfl) rfl ?_
      refine mvR rfl rfl rfl rfl (ltb rfl) ?_
      refine run_ops_nil ?_
      refine run_ret_to ?_
      refine cut_ret ?_
      obtain rfl := some_t hM
      refine fin_x hG rfl rfl rfl (v' := .tup [.agg [.int .i64 0, .int .i64 0, .str ⟨#[]⟩, .imm 0 4 true (cellss [])], .int .i64 11]) (by rfl) ⟨_, ⟨45, 1, true, [[.int .i64 i8]]⟩, rfl, rfl, (show tk ≤ tk96 by omega), ⟨_, _, _, _, i8, rfl, rfl, rfl, ⟨0, 0, ⟨#[]⟩, 0, true, [], rfl, rfl, fun _ => Fr.nil _ _⟩, rfl⟩⟩
     ·replace hM := ite_f hb101 hM
      refine run_skip ?_
      refine run_sr ?_
      refine mvL rfl rfl rfl rfl (ltb rfl) ?_
      refine run_ld hG rfl rfl rfl rfl rfl (ltb rfl) ?_
      refine run_ld hG rfl rfl rfl rfl rfl (ltb rfl) ?_
      refine mvL rfl rfl rfl rfl (ltb rfl) ?_
      refine run_sub_ops (Sub.freeze (k := 18) rfl rfl) ?_
      obtain ⟨r102, hg103, hM⟩ := bind_t hM
      refine run_call rfl rfl rfl (ltb rfl) rfl rfl rfl (fun _ h => absurd h List.not_mem_nil) (ih_s_l03Run_reduce (.bor 0) i8 k92 n92 s92 q92 f92 ks92 k4 n4 s4 q4 f4 ks4 tk96 false ks9 hg103 _ _ rfl) (callK_retV_bor (k := 0) rfl (fun v o' tk' h => by obtain ⟨_, _, _, _, _, rfl, rfl, _⟩ := h; rfl) (fun v o'117 tk104 (hle105 : (tk96 + 1) ≤ tk104) h106 => ?_))
      obtain ⟨ra113, ra114, va115, va116, c111, rfl, rfl, rfl, ⟨k107, n107, s107, q107, f107, ks107, rfl, rfl, hf108⟩, rfl⟩ := h106
      refine run_pu rfl (extract_step rfl rfl rfl) rfl (ltb rfl) ?_
      refine run_pu rfl (extract_step rfl rfl rfl) rfl (ltb rfl) ?_
      refine run_op0 rfl (store_step hG rfl rfl rfl rfl rfl rfl rfl rfl) rfl ?_
      refine mvR rfl rfl rfl rfl (ltb rfl) ?_
      refine run_ops_nil ?_
      refine run_ret_to ?_
      refine cut_ret ?_
      obtain rfl := some_t hM
      refine fin_x hG rfl rfl rfl (v' := .tup [.agg [.int .i64 k107, .int .i64 n107, .str s107, .imm q107 4 f107 (cellss ks107)], .int .i64 ra114]) (by rfl) ⟨_, ⟨45, 1, true, [[.int .i64 c111]]⟩, rfl, rfl, (show tk ≤ tk104 by omega), ⟨_, _, _, _, c111, rfl, rfl, rfl, ⟨k107, n107, s107, q107, f107, ks107, rfl, rfl, fun _ => (show Fr tk tk104 _ from ((show Fr (tk96 + 1) tk104 _ from hf108 rfl)).mono (by omega) (by omega))⟩, rfl⟩⟩
    ·replace hM := ite_f hb86 hM
     refine run_skip ?_
     exact ⟨tks_l03Run_sub_L1, (show tks_l03Run_sub_L1 ≤ tks_l03Run_sub_L1 by omega), hM, Sub.env [(4, .int .i64 i6), (8, .optr (.loc 8) 0 0), (10, .optr (.loc 10) 0 0), (11, .int .i64 0), (12, .osl (.loc 18))] ⟨rfl, rfl, rfl, rfl, rfl, trivial⟩⟩
   ·replace hM := ite_f hb85 hM
    refine run_off (on_of rfl rfl rfl rfl) rfl (ltb rfl) ?_
    refine run_off (on_of rfl rfl rfl rfl) rfl (ltb rfl) ?_
    refine run_off (on_of rfl rfl rfl rfl) rfl (ltb rfl) ?_
    refine run_off (on_of rfl rfl rfl rfl) rfl (ltb rfl) ?_
    refine run_pu rfl (pick_step rfl rfl rfl) rfl (ltb rfl) ?_
    refine run_ops_nil ?_
    refine run_if rfl rfl (fun h => by cases h) (fun _ => ?_)
    refine run_skip ?_
    exact ⟨tks_l03Run_sub_L1, (show tks_l03Run_sub_L1 ≤ tks_l03Run_sub_L1 by omega), hM, Sub.env [(4, .int .i64 i6), (8, .optr (.loc 8) 0 0), (10, .optr (.loc 10) 0 0), (11, .int .i64 0), (12, .osl (.loc 18))] ⟨rfl, rfl, rfl, rfl, rfl, trivial⟩⟩
  ·clear hM
   rintro σ' ⟨tkj84, hle144, hM, hsub⟩
   rw [hj145] at hM
   clear hj145
   refine run_sub_code hsub ?_
   refine run_sr ?_
   refine run_ld hG rfl rfl rfl rfl rfl (ltb rfl) ?_
   refine mvL rfl rfl rfl rfl (ltb rfl) ?_
   refine run_sub_ops (Sub.freeze (k := 18) rfl rfl) ?_
   refine run_call rfl rfl rfl (ltb rfl) rfl rfl rfl (fun _ h => absurd h List.not_mem_nil) (s_l01With_ex k5 n5 s5 q5 f5 ks5 tkj84 false ks9 _ _) (callK_retN ?_)
   skip
   refine run_op rfl (alloc_step (d := 17) hG rfl rfl rfl) rfl (ltb rfl) ?_
   refine run_op0 rfl (store_step hG rfl rfl rfl rfl rfl rfl rfl rfl) rfl ?_
   refine run_ops_nil ?_
   refine run_seq ?_
   refine run_sr ?_
   refine run_pu rfl (fieldAddr_step hG rfl rfl rfl rfl rfl) rfl (ltb rfl) ?_
   refine run_ld hG rfl rfl rfl rfl rfl (ltb rfl) ?_
   refine run_bin rfl rfl rfl rfl rfl rfl rfl (ltb rfl) ?_
   refine mvL rfl rfl rfl rfl (ltb rfl) ?_
   refine run_splitd (i := 79) rfl (fun hb118 => ?_) (fun hb118 => ?_)
   ·replace hM := ite_t hb118 hM
    refine run_puG (on_of rfl rfl rfl rfl) (fieldAddr_step hG rfl rfl rfl rfl rfl) rfl (ltb rfl) ?_
    refine run_rdG (on_of rfl rfl rfl rfl) (aload_rd hG rfl rfl rfl (by first | (simp [ldok]; done) | exact List.not_mem_nil | trivial)) rfl (ltb rfl) ?_
    refine run_puG (on_of rfl rfl rfl rfl) (move_step (.inl rfl) rfl) rfl (ltb rfl) ?_
    refine run_puG (on_of rfl rfl rfl rfl) (abin_step rfl rfl rfl rfl (fun _ h => by cases h)) rfl (ltb rfl) ?_
    refine run_pu rfl (pick_step rfl rfl rfl) rfl (ltb rfl) ?_
    refine run_ops_nil ?_
    refine run_sub_code (σ' := ⟨[(10, .optr (.loc 10) 0 0), (11, .int .i64 0), (17, .optr (.loc 17) 0 0), (84, .bool (decide (n5 > i6)))], [(17, ⟨29, 4, true, [[.int .i64 k5, .int .i64 n5, .str s5, .imm tkj84 4 false (cellss ks9)]]⟩), (10, ⟨29, 4, true, [[.int .i64 0, .int .i64 0, .str ⟨#[]⟩, .imm 0 4 true []]]⟩)], [⟨45, 1, true, [[.int .i64 i8]]⟩], O, (tkj84 + 1)⟩) (Sub.trans (Sub.drop (k := 8) rfl) (Sub.trans (Sub.drop (k := 7) rfl) (Sub.trans (Sub.drop (k := 6) rfl) (Sub.env _ ⟨rfl, rfl, rfl, rfl, trivial⟩)))) ?_
    refine run_ifd rfl rfl (fun hb119 => ?_) (fun hb119 => ?_)
    ·replace hM := ite_t hb119 hM
     refine run_region ?_
     refine run_pu rfl (fieldAddr_step hG rfl rfl rfl rfl rfl) rfl (ltb rfl) ?_
     refine run_ld hG rfl rfl rfl rfl rfl (ltb rfl) ?_
     refine run_bin rfl rfl rfl rfl rfl rfl rfl (ltb rfl) ?_
     refine run_pu rfl (fieldAddr_step hG rfl rfl rfl rfl rfl) rfl (ltb rfl) ?_
     refine run_op0 rfl (store_step hG rfl rfl rfl rfl rfl rfl rfl rfl) rfl ?_
     refine run_ops_nil ?_
     refine run_seq ?_
     refine run_sr ?_
     refine run_ld hG rfl rfl rfl rfl rfl (ltb rfl) ?_
     obtain ⟨r120, hg121, hM⟩ := bind_t hM
     refine run_call rfl rfl rfl (ltb rfl) rfl rfl rfl (fun _ h => absurd h List.not_mem_nil) (s_l03Big_ok n k5 (IntKind.i64.wrap (n5 - 1)) s5 tkj84 false ks9 hg121 _ _) (callK_retX (fun v tk122 (hle123 : (tkj84 + 1) ≤ tk122) h124 => ?_))
     subst h124
     refine run_ops_nil ?_
     refine run_ifb rfl rfl (fun hb127 => ?_) (fun hb127 => ?_)
     ·replace hM := ite_t hb127 hM
      refine run_sr ?_
      refine run_pu rfl (build_step hG rfl (by rfl) rfl (fun h => by cases h) (by rfl)) rfl (ltb rfl) ?_
      refine run_op0 rfl (store_step hG rfl rfl rfl rfl rfl rfl rfl rfl) rfl ?_
      refine mvR rfl rfl rfl rfl (ltb rfl) ?_
      refine run_ops_nil ?_
      refine run_ret_to ?_
      obtain rfl := some_t hM
      refine fin_x hG rfl rfl rfl (v' := .tup [.agg [.int .i64 0, .int .i64 0, .str ⟨#[]⟩, .imm 0 4 true (cellss [])], .int .i64 11]) (by rfl) ⟨_, ⟨45, 1, true, [[.int .i64 i8]]⟩, rfl, rfl, (show tk ≤ tk122 by omega), ⟨_, _, _, _, i8, rfl, rfl, rfl, ⟨0, 0, ⟨#[]⟩, 0, true, [], rfl, rfl, fun _ => Fr.nil _ _⟩, rfl⟩⟩
     ·replace hM := ite_f hb127 hM
      refine run_skip ?_
      refine run_sr ?_
      refine run_ld hG rfl rfl rfl rfl rfl (ltb rfl) ?_
      refine run_op0 rfl (store_step hG rfl rfl rfl rfl rfl rfl rfl rfl) rfl ?_
      refine mvR rfl rfl rfl rfl (ltb rfl) ?_
      refine run_ops_nil ?_
      refine run_ret_to ?_
      obtain rfl := some_t hM
      refine fin_x hG rfl rfl rfl (v' := .tup [.agg [.int .i64 k5, .int .i64 (IntKind.i64.wrap (n5 - 1)), .str s5, .imm tkj84 4 false (cellss ks9)], .int .i64 0]) (by rfl) ⟨_, ⟨45, 1, true, [[.int .i64 i8]]⟩, rfl, rfl, (show tk ≤ tk122 by omega), ⟨_, _, _, _, i8, rfl, rfl, rfl, ⟨k5, (IntKind.i64.wrap (n5 - 1)), s5, tkj84, false, ks9, rfl, rfl, fun _ => (show Fr tk tk122 _ from (show Fr tk (tkj84 + 1) _ from Fr.tstop (show Fr tk tkj84 _ from (hfr9).mono (by omega) (by omega)) (by omega) (by omega)).mono (by omega) (by omega))⟩, rfl⟩⟩
    ·replace hM := ite_f hb119 hM
     refine run_skip ?_
     refine run_seq ?_
     refine run_sr ?_
     refine run_ld hG rfl rfl rfl rfl rfl (ltb rfl) ?_
     obtain ⟨r128, hg129, hM⟩ := bind_t hM
     refine run_call rfl rfl rfl (ltb rfl) rfl rfl rfl (fun _ h => absurd h List.not_mem_nil) (s_l03Big_ok n k5 n5 s5 tkj84 false ks9 hg129 _ _) (callK_retX (fun v tk130 (hle131 : (tkj84 + 1) ≤ tk130) h132 => ?_))
     subst h132
     refine run_ops_nil ?_
     refine run_ifb rfl rfl (fun hb135 => ?_) (fun hb135 => ?_)
     ·replace hM := ite_t hb135 hM
      refine run_sr ?_
      refine run_pu rfl (build_step hG rfl (by rfl) rfl (fun h => by cases h) (by rfl)) rfl (ltb rfl) ?_
      refine run_op0 rfl (store_step hG rfl rfl rfl rfl rfl rfl rfl rfl) rfl ?_
      refine mvR rfl rfl rfl rfl (ltb rfl) ?_
      refine run_ops_nil ?_
      refine run_ret_to ?_
      obtain rfl := some_t hM
      refine fin_x hG rfl rfl rfl (v' := .tup [.agg [.int .i64 0, .int .i64 0, .str ⟨#[]⟩, .imm 0 4 true (cellss [])], .int .i64 11]) (by rfl) ⟨_, ⟨45, 1, true, [[.int .i64 i8]]⟩, rfl, rfl, (show tk ≤ tk130 by omega), ⟨_, _, _, _, i8, rfl, rfl, rfl, ⟨0, 0, ⟨#[]⟩, 0, true, [], rfl, rfl, fun _ => Fr.nil _ _⟩, rfl⟩⟩
     ·replace hM := ite_f hb135 hM
      refine run_skip ?_
      refine run_sr ?_
      refine run_ld hG rfl rfl rfl rfl rfl (ltb rfl) ?_
      refine run_op0 rfl (store_step hG rfl rfl rfl rfl rfl rfl rfl rfl) rfl ?_
      refine mvR rfl rfl rfl rfl (ltb rfl) ?_
      refine run_ops_nil ?_
      refine run_ret_to ?_
      obtain rfl := some_t hM
      refine fin_x hG rfl rfl rfl (v' := .tup [.agg [.int .i64 k5, .int .i64 n5, .str s5, .imm tkj84 4 false (cellss ks9)], .int .i64 0]) (by rfl) ⟨_, ⟨45, 1, true, [[.int .i64 i8]]⟩, rfl, rfl, (show tk ≤ tk130 by omega), ⟨_, _, _, _, i8, rfl, rfl, rfl, ⟨k5, n5, s5, tkj84, false, ks9, rfl, rfl, fun _ => (show Fr tk tk130 _ from (show Fr tk (tkj84 + 1) _ from Fr.tstop (show Fr tk tkj84 _ from (hfr9).mono (by omega) (by omega)) (by omega) (by omega)).mono (by omega) (by omega))⟩, rfl⟩⟩
   ·replace hM := ite_f hb118 hM
    refine run_off (on_of rfl rfl rfl rfl) rfl (ltb rfl) ?_
    refine run_off (on_of rfl rfl rfl rfl) rfl (ltb rfl) ?_
    refine run_off (on_of rfl rfl rfl rfl) rfl (ltb rfl) ?_
    refine run_off (on_of rfl rfl rfl rfl) rfl (ltb rfl) ?_
    refine run_pu rfl (pick_step rfl rfl rfl) rfl (ltb rfl) ?_
    refine run_ops_nil ?_
    refine run_if rfl rfl (fun h => by cases h) (fun _ => ?_)
    refine run_skip ?_
    refine run_seq ?_
    refine run_sr ?_
    refine run_ld hG rfl rfl rfl rfl rfl (ltb rfl) ?_
    obtain ⟨r136, hg137, hM⟩ := bind_t hM
    refine run_call rfl rfl rfl (ltb rfl) rfl rfl rfl (fun _ h => absurd h List.not_mem_nil) (s_l03Big_ok n k5 n5 s5 tkj84 false ks9 hg137 _ _) (callK_retX (fun v tk138 (hle139 : (tkj84 + 1) ≤ tk138) h140 => ?_))
    subst h140
    refine run_ops_nil ?_
    refine run_ifb rfl rfl (fun hb143 => ?_) (fun hb143 => ?_)
    ·replace hM := ite_t hb143 hM
     refine run_sr ?_
     refine run_pu rfl (build_step hG rfl (by rfl) rfl (fun h => by cases h) (by rfl)) rfl (ltb rfl) ?_
     refine run_op0 rfl (store_step hG rfl rfl rfl rfl rfl rfl rfl rfl) rfl ?_
     refine mvR rfl rfl rfl rfl (ltb rfl) ?_
     refine run_ops_nil ?_
     refine run_ret_to ?_
     obtain rfl := some_t hM
     refine fin_x hG rfl rfl rfl (v' := .tup [.agg [.int .i64 0, .int .i64 0, .str ⟨#[]⟩, .imm 0 4 true (cellss [])], .int .i64 11]) (by rfl) ⟨_, ⟨45, 1, true, [[.int .i64 i8]]⟩, rfl, rfl, (show tk ≤ tk138 by omega), ⟨_, _, _, _, i8, rfl, rfl, rfl, ⟨0, 0, ⟨#[]⟩, 0, true, [], rfl, rfl, fun _ => Fr.nil _ _⟩, rfl⟩⟩
    ·replace hM := ite_f hb143 hM
     refine run_skip ?_
     refine run_sr ?_
     refine run_ld hG rfl rfl rfl rfl rfl (ltb rfl) ?_
     refine run_op0 rfl (store_step hG rfl rfl rfl rfl rfl rfl rfl rfl) rfl ?_
     refine mvR rfl rfl rfl rfl (ltb rfl) ?_
     refine run_ops_nil ?_
     refine run_ret_to ?_
     obtain rfl := some_t hM
     refine fin_x hG rfl rfl rfl (v' := .tup [.agg [.int .i64 k5, .int .i64 n5, .str s5, .imm tkj84 4 false (cellss ks9)], .int .i64 0]) (by rfl) ⟨_, ⟨45, 1, true, [[.int .i64 i8]]⟩, rfl, rfl, (show tk ≤ tk138 by omega), ⟨_, _, _, _, i8, rfl, rfl, rfl, ⟨k5, n5, s5, tkj84, false, ks9, rfl, rfl, fun _ => (show Fr tk tk138 _ from (show Fr tk (tkj84 + 1) _ from Fr.tstop (show Fr tk tkj84 _ from (hfr9).mono (by omega) (by omega)) (by omega) (by omega)).mono (by omega) (by omega))⟩, rfl⟩⟩

theorem s_l03Run_reduce_all : ∀ (n : Nat), (∀ (X0 : ID) (i2 : Int) (k3 : Int) (n3 : Int) (s3 : ByteArray) (q3 : Nat) (f3 : Bool) (ks3 : List LT) (k4 : Int) (n4 : Int) (s4 : ByteArray) (q4 : Nat) (f4 : Bool) (ks4 : List LT) (q5 : Nat) (f5 : Bool) (ks5 : List LT) {r : (T × Int × (Int))}, s_l03Run_reduce n (i2) (T.mk k3 n3 s3 (ers ks3)) (T.mk k4 n4 s4 (ers ks4)) (ers ks5) = some r → ∀ (O : Heap) (tk : Nat), O X0 = some ⟨45, 1, true, [[.int .i64 i2]]⟩ → ACalls Go.Proofs.Tryd.prog 21 [.optr X0 0 0, .agg [.int .i64 k3, .int .i64 n3, .str s3, .imm q3 4 f3 (cellss ks3)], .agg [.int .i64 k4, .int .i64 n4, .str s4, .imm q4 4 f4 (cellss ks4)], .imm q5 4 f5 (cellss ks5)] O tk (RetV O X0 tk (fun v o' tk' => ∃ r0' r1' v0' v1', ∃ (c0 : Int), r = (r0', r1', (c0)) ∧ o' = ⟨45, 1, true, [[.int .i64 c0]]⟩ ∧ v = .tup [v0', v1'] ∧ VT true tk tk' r0' v0' ∧ v1' = .int .i64 r1'))) ∧ (∀ (X0 : ID) (i2 : Int) (k3 : Int) (n3 : Int) (s3 : ByteArray) (q3 : Nat) (f3 : Bool) (ks3 : List LT) (k4 : Int) (n4 : Int) (s4 : ByteArray) (q4 : Nat) (f4 : Bool) (ks4 : List LT) (k5 : Int) (n5 : Int) (s5 : ByteArray) (q5 : Nat) (f5 : Bool) (ks5 : List LT) (i6 : Int) {r : (T × Int × (Int))}, s_l03Run_sub n (i2) (T.mk k3 n3 s3 (ers ks3)) (T.mk k4 n4 s4 (ers ks4)) (T.mk k5 n5 s5 (ers ks5)) i6 = some r → ∀ (O : Heap) (tk : Nat), O X0 = some ⟨45, 1, true, [[.int .i64 i2]]⟩ → ACalls Go.Proofs.Tryd.prog 32 [.optr X0 0 0, .agg [.int .i64 k3, .int .i64 n3, .str s3, .imm q3 4 f3 (cellss ks3)], .agg [.int .i64 k4, .int .i64 n4, .str s4, .imm q4 4 f4 (cellss ks4)], .agg [.int .i64 k5, .int .i64 n5, .str s5, .imm q5 4 f5 (cellss ks5)], .int .i64 i6] O tk (RetV O X0 tk (fun v o' tk' => ∃ r0' r1' v0' v1', ∃ (c0 : Int), r = (r0', r1', (c0)) ∧ o' = ⟨45, 1, true, [[.int .i64 c0]]⟩ ∧ v = .tup [v0', v1'] ∧ VT true tk tk' r0' v0' ∧ v1' = .int .i64 r1')))
 | 0 => ⟨(by intro X0 i2 k3 n3 s3 q3 f3 ks3 k4 n4 s4 q4 f4 ks4 q5 f5 ks5 r hM; rw [s_l03Run_reduce] at hM; cases hM), (by intro X0 i2 k3 n3 s3 q3 f3 ks3 k4 n4 s4 q4 f4 ks4 k5 n5 s5 q5 f5 ks5 i6 r hM; rw [s_l03Run_sub] at hM; cases hM)⟩
 | n + 1 => have ih := s_l03Run_reduce_all n; ⟨s_l03Run_reduce_st n (ih.2), s_l03Run_sub_st n (ih.1) (ih.2)⟩

theorem s_l03Run_reduce_ok (n : Nat) : ∀ (X0 : ID) (i2 : Int) (k3 : Int) (n3 : Int) (s3 : ByteArray) (q3 : Nat) (f3 : Bool) (ks3 : List LT) (k4 : Int) (n4 : Int) (s4 : ByteArray) (q4 : Nat) (f4 : Bool) (ks4 : List LT) (q5 : Nat) (f5 : Bool) (ks5 : List LT) {r : (T × Int × (Int))}, s_l03Run_reduce n (i2) (T.mk k3 n3 s3 (ers ks3)) (T.mk k4 n4 s4 (ers ks4)) (ers ks5) = some r → ∀ (O : Heap) (tk : Nat), O X0 = some ⟨45, 1, true, [[.int .i64 i2]]⟩ → ACalls Go.Proofs.Tryd.prog 21 [.optr X0 0 0, .agg [.int .i64 k3, .int .i64 n3, .str s3, .imm q3 4 f3 (cellss ks3)], .agg [.int .i64 k4, .int .i64 n4, .str s4, .imm q4 4 f4 (cellss ks4)], .imm q5 4 f5 (cellss ks5)] O tk (RetV O X0 tk (fun v o' tk' => ∃ r0' r1' v0' v1', ∃ (c0 : Int), r = (r0', r1', (c0)) ∧ o' = ⟨45, 1, true, [[.int .i64 c0]]⟩ ∧ v = .tup [v0', v1'] ∧ VT true tk tk' r0' v0' ∧ v1' = .int .i64 r1')) := (s_l03Run_reduce_all n).1

theorem s_l03Run_sub_ok (n : Nat) : ∀ (X0 : ID) (i2 : Int) (k3 : Int) (n3 : Int) (s3 : ByteArray) (q3 : Nat) (f3 : Bool) (ks3 : List LT) (k4 : Int) (n4 : Int) (s4 : ByteArray) (q4 : Nat) (f4 : Bool) (ks4 : List LT) (k5 : Int) (n5 : Int) (s5 : ByteArray) (q5 : Nat) (f5 : Bool) (ks5 : List LT) (i6 : Int) {r : (T × Int × (Int))}, s_l03Run_sub n (i2) (T.mk k3 n3 s3 (ers ks3)) (T.mk k4 n4 s4 (ers ks4)) (T.mk k5 n5 s5 (ers ks5)) i6 = some r → ∀ (O : Heap) (tk : Nat), O X0 = some ⟨45, 1, true, [[.int .i64 i2]]⟩ → ACalls Go.Proofs.Tryd.prog 32 [.optr X0 0 0, .agg [.int .i64 k3, .int .i64 n3, .str s3, .imm q3 4 f3 (cellss ks3)], .agg [.int .i64 k4, .int .i64 n4, .str s4, .imm q4 4 f4 (cellss ks4)], .agg [.int .i64 k5, .int .i64 n5, .str s5, .imm q5 4 f5 (cellss ks5)], .int .i64 i6] O tk (RetV O X0 tk (fun v o' tk' => ∃ r0' r1' v0' v1', ∃ (c0 : Int), r = (r0', r1', (c0)) ∧ o' = ⟨45, 1, true, [[.int .i64 c0]]⟩ ∧ v = .tup [v0', v1'] ∧ VT true tk tk' r0' v0' ∧ v1' = .int .i64 r1')) := (s_l03Run_reduce_all n).2

end Go.Am.YtiobknkpdkkikabDoor
