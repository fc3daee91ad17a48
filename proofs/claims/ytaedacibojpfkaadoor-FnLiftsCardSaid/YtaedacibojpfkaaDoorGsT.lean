/- Printed by a program of ours: Lean functions that do what the Go functions do, and the contracts. -/
import Derived.Test.YtaedacibojpfkaaDoorMl0
import Derived.Test.YtaedacibojpfkaaDoorMb1
import Derived.Test.YtaedacibojpfkaaDoorTypes
import Derived.Test.YtaedacibojpfkaaDoorMi4
import Derived.Test.YtaedacibojpfkaaDoorMc1
import Derived.Test.YtaedacibojpfkaaDoorMb3
import Derived.Test.YtaedacibojpfkaaDoorGs0
import Derived.Test.YtaedacibojpfkaaDoorGsD
-- packed
namespace Go.Am.YtaedacibojpfkaaDoor
open Go Go.Am

set_option maxRecDepth 100000 in
theorem s_l01Const_ex (t1 : ByteArray) (q2 : Nat) (f2 : Bool) (ks2 : List LT) (O : Heap) (tk : Nat) : ACalls Go.Proofs.Tryd.prog 85 [.str t1, .imm q2 4 f2 (cellss ks2)] O tk (RetN O (.agg [.int .i64 6, .int .i64 0, .str t1, .imm q2 4 f2 (cellss ks2)]) tk) := by
 refine acalls_of_run Go.Proofs.Tryd.func85 rfl rfl [] [] (Bor.nil _) [(0, .str t1), (1, .imm q2 4 f2 (cellss ks2))] (.cons (entS rfl) (.cons (entS rfl) (.nil _))) (leb rfl) (fun _ h => by cases h) (fun S0 hO htk hfz => ?_)
 refine run_sr ?_
 refine run_op rfl (alloc_step (d := 4) hG rfl rfl rfl) rfl (ltb rfl) ?_
 refine run_ops_nil ?_
 refine run_sr ?_
 refine mvL rfl rfl rfl rfl (ltb rfl) ?_
 refine mvL rfl rfl rfl rfl (ltb rfl) ?_
 refine run_pu rfl (build_step hG rfl (by rfl) rfl (fun h => by cases h) (by rfl)) rfl (ltb rfl) ?_
 refine run_op0 rfl (store_step hG rfl rfl rfl rfl rfl rfl rfl rfl) rfl ?_
 refine run_ops_nil ?_
 refine run_ret_to ?_
 refine fin_x hG rfl rfl rfl (v' := .agg [.int .i64 6, .int .i64 0, .str t1, .imm q2 4 f2 (cellss ks2)]) (by rfl) ⟨rfl, rfl, rfl⟩

set_option maxRecDepth 100000 in
theorem s_l01Var_ex (i1 : Int) (q2 : Nat) (f2 : Bool) (ks2 : List LT) (O : Heap) (tk : Nat) : ACalls Go.Proofs.Tryd.prog 54 [.int .i64 i1, .imm q2 4 f2 (cellss ks2)] O tk (RetN O (.agg [.int .i64 5, .int .i64 i1, .str ⟨#[]⟩, .imm q2 4 f2 (cellss ks2)]) tk) := by
 refine acalls_of_run Go.Proofs.Tryd.func54 rfl rfl [] [] (Bor.nil _) [(0, .int .i64 i1), (1, .imm q2 4 f2 (cellss ks2))] (.cons (entS rfl) (.cons (entS rfl) (.nil _))) (leb rfl) (fun _ h => by cases h) (fun S0 hO htk hfz => ?_)
 refine run_sr ?_
 refine run_op rfl (alloc_step (d := 4) hG rfl rfl rfl) rfl (ltb rfl) ?_
 refine run_ops_nil ?_
 refine run_sr ?_
 refine mvL rfl rfl rfl rfl (ltb rfl) ?_
 refine mvL rfl rfl rfl rfl (ltb rfl) ?_
 refine run_pu rfl (build_step hG rfl (by rfl) rfl (fun h => by cases h) (by rfl)) rfl (ltb rfl) ?_
 refine run_op0 rfl (store_step hG rfl rfl rfl rfl rfl rfl rfl rfl) rfl ?_
 refine run_ops_nil ?_
 refine run_ret_to ?_
 refine fin_x hG rfl rfl rfl (v' := .agg [.int .i64 5, .int .i64 i1, .str ⟨#[]⟩, .imm q2 4 f2 (cellss ks2)]) (by rfl) ⟨rfl, rfl, rfl⟩

set_option maxRecDepth 100000 in
theorem s_l01Lam_ex (k1 : Int) (n1 : Int) (s1 : ByteArray) (q1 : Nat) (f1 : Bool) (ks1 : List LT) (O : Heap) (tk : Nat) : ACalls Go.Proofs.Tryd.prog 87 [.agg [.int .i64 k1, .int .i64 n1, .str s1, .imm q1 4 f1 (cellss ks1)]] O tk (RetN O (.agg [.int .i64 4, .int .i64 0, .str ⟨#[]⟩, .imm tk 4 false (cellss [LT.mk k1 n1 s1 q1 f1 ks1])]) (tk + 1)) := by
 refine acalls_of_run Go.Proofs.Tryd.func87 rfl rfl [] [] (Bor.nil _) [(0, .agg [.int .i64 k1, .int .i64 n1, .str s1, .imm q1 4 f1 (cellss ks1)])] (.cons (.agg _) (.nil _)) (leb rfl) (fun _ h => by cases h) (fun S0 hO htk hfz => ?_)
 refine run_sr ?_
 refine run_op rfl (box_step (d := 1) rfl rfl rfl rfl rfl) rfl (ltb rfl) ?_
 refine run_op rfl (alloc_step (d := 2) hG rfl rfl rfl) rfl (ltb rfl) ?_
 refine run_ops_nil ?_
 refine run_sr ?_
 refine run_ld hG rfl rfl rfl rfl rfl (ltb rfl) ?_
 refine run_op rfl (buildSlice_step (d := 4) hG rfl rfl rfl rfl rfl (by rfl) (by rfl) (by rfl) (by decide)) rfl (ltb rfl) ?_
 refine run_pu rfl (build_step hG rfl (by rfl) rfl (fun h => by cases h) (by rfl)) rfl (ltb rfl) ?_
 refine run_op0 rfl (store_step hG rfl rfl rfl rfl rfl rfl rfl rfl) rfl ?_
 refine run_ops_nil ?_
 refine run_ret_to ?_
 refine fin_sub (Sub.freeze (k := 4) rfl rfl) ?_
 refine fin_x hG rfl rfl rfl (v' := .agg [.int .i64 4, .int .i64 0, .str ⟨#[]⟩, .imm tk 4 false (cellss [LT.mk k1 n1 s1 q1 f1 ks1])]) (by rfl) ⟨rfl, rfl, rfl⟩

def s_l00Src_pick (z1 : (List Int × Int × Int)) (l5 : List ByteArray) : Option (ByteArray × (List Int × Int × Int)) :=
 if ((l5).length : Int) = 0 then
  some (⟨#[]⟩, (z1.1, z1.2.1, z1.2.2))
 else
  (s_l00Src_next (z1.1, z1.2.1, z1.2.2) ((l5).length : Int)).bind fun r7 =>
  (idx l5 r7.1).bind fun y19 =>
  some (y19, (r7.2.1, r7.2.2.1, r7.2.2.2))

set_option maxRecDepth 100000 in
theorem s_l00Src_pick_ok : ∀ (X0 : ID) (q2 : Nat) (f2 : Bool) (l2 : List Int) (i3 : Int) (i4 : Int) (q5 : Nat) (f5 : Bool) (l5 : List ByteArray) {r : (ByteArray × (List Int × Int × Int))}, s_l00Src_pick (l2, i3, i4) l5 = some r → ∀ (O : Heap) (tk : Nat), O X0 = some ⟨99, 3, true, [[.imm q2 1 f2 ((l2 : List Int).map fun n => [AV.int .u8 n]), .int .i64 i3, .int .i64 i4]]⟩ → ACalls Go.Proofs.Tryd.prog 86 [.optr X0 0 0, .imm q5 1 f5 ((l5 : List ByteArray).map fun s => [AV.str s])] O tk (RetV O X0 tk (fun v o' tk' => ∃ r0', ∃ (c0q : Nat) (c0f : Bool) (c0 : List Int) (c1 : Int) (c2 : Int) , r = (r0', (c0, c1, c2)) ∧ o' = ⟨99, 3, true, [[.imm c0q 1 c0f ((c0 : List Int).map fun n => [AV.int .u8 n]), .int .i64 c1, .int .i64 c2]]⟩ ∧ v = .str r0')) := by
 intro X0 q2 f2 l2 i3 i4 q5 f5 l5 r hM O tk hX0
 unfold s_l00Src_pick at hM
 refine acalls_of_run Go.Proofs.Tryd.func86 rfl rfl [X0] [⟨99, 3, true, [[.imm q2 1 f2 ((l2 : List Int).map fun n => [AV.int .u8 n]), .int .i64 i3, .int .i64 i4]]⟩] (Bor.one hX0 rfl) [(0, .optr (.bor 0) 0 0), (1, .imm q5 1 f5 ((l5 : List ByteArray).map fun s => [AV.str s]))] (.cons (.bor 0 _ _ _ rfl) (.cons (entS rfl) (.nil _))) (leb rfl) (by intro y h; simp only [List.mem_cons, List.not_mem_nil, or_false] at h; rcases h with rfl <;> simp [tch, tch0]) (fun S0 hO htk hfz => ?_)
 refine run_sr ?_
 refine mvR rfl rfl rfl rfl (ltb rfl) ?_
 refine run_ops_nil ?_
 refine run_seq ?_
 refine run_sr ?_
 refine mvL rfl rfl rfl rfl (ltb rfl) ?_
 refine run_pu rfl (lenImm_step hG rfl rfl rfl rfl (slen _)) rfl (ltb rfl) ?_
 refine run_bin rfl rfl rfl rfl rfl rfl rfl (ltb rfl) ?_
 refine run_ops_nil ?_
 refine run_ifd rfl rfl (fun hb6 => ?_) (fun hb6 => ?_)
 ·replace hM := ite_t hb6 hM
  refine run_sr ?_
  refine mvR rfl rfl rfl rfl (ltb rfl) ?_
  refine run_ops_nil ?_
  refine run_ret_to ?_
  replace hM := some_t hM
  subst hM
  refine fin_x hG rfl rfl rfl (v' := .str ⟨#[]⟩) (by rfl) ⟨_, ⟨99, 3, true, [[.imm q2 1 f2 ((l2 : List Int).map fun n => [AV.int .u8 n]), .int .i64 i3, .int .i64 i4]]⟩, rfl, rfl, (show tk ≤ tk by omega), ⟨_, q2, f2, l2, i3, i4, rfl, rfl, rfl⟩⟩
 ·replace hM := ite_f hb6 hM
  refine run_skip ?_
  refine run_sr ?_
  refine mvL rfl rfl rfl rfl (ltb rfl) ?_
  refine mvL rfl rfl rfl rfl (ltb rfl) ?_
  refine mvL rfl rfl rfl rfl (ltb rfl) ?_
  refine run_pu rfl (lenImm_step hG rfl rfl rfl rfl (slen _)) rfl (ltb rfl) ?_
  obtain ⟨r7, hg8, hM⟩ := bind_t hM
  refine run_call rfl rfl rfl (ltb rfl) rfl rfl rfl (fun _ h => absurd h List.not_mem_nil) (s_l00Src_next_ok (.bor 0) q2 f2 l2 i3 i4 ((l5).length : Int) hg8 _ _ rfl) (callK_retV_bor (k := 0) rfl (fun v o' tk' h => by obtain ⟨_, _, _, _, _, _, rfl, rfl, _⟩ := h; rfl) (fun v o'18 tk9 (hle10 : tk ≤ tk9) h11 => ?_))
  obtain ⟨ra17, qc14, fc14, c14, c15, c16, rfl, rfl, rfl⟩ := h11
  obtain ⟨y19, hy20, hM⟩ := bind_t hM
  obtain ⟨hc22, hi23⟩ := sidx hy20
  refine run_pu rfl (indexImm_step hG rfl rfl rfl hi23 rfl rfl rfl rfl hc22) rfl (ltb rfl) ?_
  refine run_ld hG rfl rfl rfl rfl rfl (ltb rfl) ?_
  refine mvR rfl rfl rfl rfl (ltb rfl) ?_
  refine run_ops_nil ?_
  refine run_ret_to ?_
  replace hM := some_t hM
  subst hM
  refine fin_x hG rfl rfl rfl (v' := .str y19) (by rfl) ⟨_, ⟨99, 3, true, [[.imm qc14 1 fc14 ((c14 : List Int).map fun n => [AV.int .u8 n]), .int .i64 c15, .int .i64 c16]]⟩, rfl, rfl, (show tk ≤ tk9 by omega), ⟨_, qc14, fc14, c14, c15, c16, rfl, rfl, rfl⟩⟩

def s_l00Src_spine_L1 (rec_s_l00Src_rawTerm : (List Int × Int × Int) → Int → Option (T × (List Int × Int × Int))) (i5 : Int) : Nat → Int → List Int → Int → Int → List T → Option (List T × (List Int × Int × Int))
 | 0, _, _, _, _, _ => none
 | m + 1, i19, l20, i21, i22, l23 =>
  if i19 > 0 then
   (rec_s_l00Src_rawTerm (l20, i21, i22) (IntKind.i64.wrap (i5 - 1))).bind fun r25 =>
   chk ((l23).length + ([r25.1]).length ≤ 1099511627776) <|
   s_l00Src_spine_L1 rec_s_l00Src_rawTerm i5 m (IntKind.i64.wrap (i19 - 1)) r25.2.1 r25.2.2.1 r25.2.2.2 (l23 ++ [r25.1])
  else
   some (l23, (l20, i21, i22))

mutual

def s_l00Src_rawTerm : Nat → (List Int × Int × Int) → Int → Option (T × (List Int × Int × Int))
 | 0, _, _ => none
 | n + 1, z1, i5 =>
  if i5 ≤ 0 then
   (s_l00Src_chance (z1.1, z1.2.1, z1.2.2) 3).bind fun r7 =>
   if r7.1 = true then
    (s_l00Src_pick (r7.2.1, r7.2.2.1, r7.2.2.2) ([(⟨#[122]⟩ : ByteArray), (⟨#[99]⟩ : ByteArray), (⟨#[97]⟩ : ByteArray)])).bind fun r20 =>
    some ((T.mk 6 0 r20.1 []), (r20.2.1, r20.2.2.1, r20.2.2.2))
   else
    (s_l00Src_next (r7.2.1, r7.2.2.1, r7.2.2.2) 4).bind fun r32 =>
    some ((T.mk 5 r32.1 ⟨#[]⟩ []), (r32.2.1, r32.2.2.1, r32.2.2.2))
  else
   (s_l00Src_next (z1.1, z1.2.1, z1.2.2) 9).bind fun r44 =>
   jn (fun (b57 : Bool) =>
    if b57 = true then
     (s_l00Src_rawTerm n (r44.2.1, r44.2.2.1, r44.2.2.2) (IntKind.i64.wrap (i5 - 1))).bind fun r61 =>
     some ((T.mk 4 0 ⟨#[]⟩ [r61.1]), (r61.2.1, r61.2.2.1, r61.2.2.2))
    else
     jn (fun (b74 : Bool) =>
      if b74 = true then
       (s_l00Src_next (r44.2.1, r44.2.2.1, r44.2.2.2) 4).bind fun r78 =>
       (s_l00Src_spine n (r78.2.1, r78.2.2.1, r78.2.2.2) i5 2).bind fun r90 =>
       some ((T.mk 5 r78.1 ⟨#[]⟩ r90.1), (r90.2.1, r90.2.2.1, r90.2.2.2))
      else
       if r44.1 = 6 then
        (s_l00Src_next (r44.2.1, r44.2.2.1, r44.2.2.2) 3).bind fun r103 =>
        (s_l00Src_spine n (r103.2.1, r103.2.2.1, r103.2.2.2) i5 2).bind fun r115 =>
        some ((T.mk 7 r103.1 ⟨#[]⟩ r115.1), (r115.2.1, r115.2.2.1, r115.2.2.2))
       else
        (s_l00Src_pick (r44.2.1, r44.2.2.1, r44.2.2.2) ([(⟨#[115]⟩ : ByteArray), (⟨#[99]⟩ : ByteArray), (⟨#[122]⟩ : ByteArray)])).bind fun r127 =>
        (s_l00Src_spine n (r127.2.1, r127.2.2.1, r127.2.2.2) i5 2).bind fun r139 =>
        some ((T.mk 6 0 r127.1 r139.1), (r139.2.1, r139.2.2.1, r139.2.2.2))) fun j73 =>
     if r44.1 = 3 then
      j73 (r44.1 == 3)
     else
      if r44.1 = 4 then
       j73 (r44.1 == 4)
      else
       j73 (r44.1 == 5)) fun j56 =>
   if r44.1 = 0 then
    j56 (r44.1 == 0)
   else
    if r44.1 = 1 then
     j56 (r44.1 == 1)
    else
     j56 (r44.1 == 2)

def s_l00Src_spine : Nat → (List Int × Int × Int) → Int → Int → Option (List T × (List Int × Int × Int))
 | 0, _, _, _ => none
 | n + 1, z1, i5, i6 =>
  (s_l00Src_next (z1.1, z1.2.1, z1.2.2) (IntKind.i64.wrap (i6 + 1))).bind fun r7 =>
  s_l00Src_spine_L1 (s_l00Src_rawTerm n) i5 n r7.1 r7.2.1 r7.2.2.1 r7.2.2.2 ([])

end

set_option maxHeartbeats 20000000 in
set_option maxRecDepth 100000 in
theorem s_l00Src_rawTerm_st (n : Nat) (ih_s_l00Src_rawTerm : ∀ (X0 : ID) (q2 : Nat) (f2 : Bool) (l2 : List Int) (i3 : Int) (i4 : Int) (i5 : Int) {r : (T × (List Int × Int × Int))}, s_l00Src_rawTerm n (l2, i3, i4) i5 = some r → ∀ (O : Heap) (tk : Nat), O X0 = some ⟨99, 3, true, [[.imm q2 1 f2 ((l2 : List Int).map fun n => [AV.int .u8 n]), .int .i64 i3, .int .i64 i4]]⟩ → ACalls Go.Proofs.Tryd.prog 33 [.optr X0 0 0, .int .i64 i5] O tk (RetV O X0 tk (fun v o' tk' => ∃ r0', ∃ (c0q : Nat) (c0f : Bool) (c0 : List Int) (c1 : Int) (c2 : Int) , r = (r0', (c0, c1, c2)) ∧ o' = ⟨99, 3, true, [[.imm c0q 1 c0f ((c0 : List Int).map fun n => [AV.int .u8 n]), .int .i64 c1, .int .i64 c2]]⟩ ∧ VT false tk tk' r0' v))) (ih_s_l00Src_spine : ∀ (X0 : ID) (q2 : Nat) (f2 : Bool) (l2 : List Int) (i3 : Int) (i4 : Int) (i5 : Int) (i6 : Int) {r : (List T × (List Int × Int × Int))}, s_l00Src_spine n (l2, i3, i4) i5 i6 = some r → ∀ (O : Heap) (tk : Nat), O X0 = some ⟨99, 3, true, [[.imm q2 1 f2 ((l2 : List Int).map fun n => [AV.int .u8 n]), .int .i64 i3, .int .i64 i4]]⟩ → ACalls Go.Proofs.Tryd.prog 88 [.optr X0 0 0, .int .i64 i5, .int .i64 i6] O tk (RetV O X0 tk (fun v o' tk' => ∃ r0', ∃ (c0q : Nat) (c0f : Bool) (c0 : List Int) (c1 : Int) (c2 : Int) , r = (r0', (c0, c1, c2)) ∧ o' = ⟨99, 3, true, [[.imm c0q 1 c0f ((c0 : List Int).map fun n => [AV.int .u8 n]), .int .i64 c1, .int .i64 c2]]⟩ ∧ VTs false tk tk' r0' v))) : ∀ (X0 : ID) (q2 : Nat) (f2 : Bool) (l2 : List Int) (i3 : Int) (i4 : Int) (i5 : Int) {r : (T × (List Int × Int × Int))}, s_l00Src_rawTerm (n + 1) (l2, i3, i4) i5 = some r → ∀ (O : Heap) (tk : Nat), O X0 = some ⟨99, 3, true, [[.imm q2 1 f2 ((l2 : List Int).map fun n => [AV.int .u8 n]), .int .i64 i3, .int .i64 i4]]⟩ → ACalls Go.Proofs.Tryd.prog 33 [.optr X0 0 0, .int .i64 i5] O tk (RetV O X0 tk (fun v o' tk' => ∃ r0', ∃ (c0q : Nat) (c0f : Bool) (c0 : List Int) (c1 : Int) (c2 : Int) , r = (r0', (c0, c1, c2)) ∧ o' = ⟨99, 3, true, [[.imm c0q 1 c0f ((c0 : List Int).map fun n => [AV.int .u8 n]), .int .i64 c1, .int .i64 c2]]⟩ ∧ VT false tk tk' r0' v)) := by
 intro X0 q2 f2 l2 i3 i4 i5 r hM O tk hX0
 rw [s_l00Src_rawTerm] at hM
 refine acalls_of_run Go.Proofs.Tryd.func33 rfl rfl [X0] [⟨99, 3, true, [[.imm q2 1 f2 ((l2 : List Int).map fun n => [AV.int .u8 n]), .int .i64 i3, .int .i64 i4]]⟩] (Bor.one hX0 rfl) [(0, .optr (.bor 0) 0 0), (1, .int .i64 i5)] (.cons (.bor 0 _ _ _ rfl) (.cons (entS rfl) (.nil _))) (leb rfl) (by intro y h; simp only [List.mem_cons, List.not_mem_nil, or_false] at h; rcases h with rfl <;> simp [tch, tch0]) (fun S0 hO htk hfz => ?_)
 refine run_sr ?_
 refine run_op rfl (alloc_step (d := 4) hG rfl rfl rfl) rfl (ltb rfl) ?_
 refine run_ops_nil ?_
 refine run_seq ?_
 refine run_sr ?_
 refine mvL rfl rfl rfl rfl (ltb rfl) ?_
 refine run_bin rfl rfl rfl rfl rfl rfl rfl (ltb rfl) ?_
 refine run_ops_nil ?_
 refine run_ifd rfl rfl (fun hb6 => ?_) (fun hb6 => ?_)
 ·replace hM := ite_t hb6 hM
  refine run_seq ?_
  refine run_sr ?_
  refine mvL rfl rfl rfl rfl (ltb rfl) ?_
  obtain ⟨r7, hg8, hM⟩ := bind_t hM
  refine run_call rfl rfl rfl (ltb rfl) rfl rfl rfl (fun _ h => absurd h List.not_mem_nil) (s_l00Src_chance_ok (.bor 0) q2 f2 l2 i3 i4 3 hg8 _ _ rfl) (callK_retV_bor (k := 0) rfl (fun v o' tk' h => by obtain ⟨_, _, _, _, _, _, rfl, rfl, _⟩ := h; rfl) (fun v o'18 tk9 (hle10 : tk ≤ tk9) h11 => ?_))
  obtain ⟨ra17, qc14, fc14, c14, c15, c16, rfl, rfl, rfl⟩ := h11
  refine run_ops_nil ?_
  refine run_ifb rfl rfl (fun hb19 => ?_) (fun hb19 => ?_)
  ·replace hM := ite_t hb19 hM
   refine run_sr ?_
   refine mvL rfl rfl rfl rfl (ltb rfl) ?_
   refine run_op rfl (buildSlice_step (d := 10) hG rfl rfl rfl rfl rfl (by rfl) (by rfl) (by rfl) (by decide)) rfl (ltb rfl) ?_
   refine run_sub_ops (Sub.freeze (k := 10) rfl rfl) ?_
   obtain ⟨r20, hg21, hM⟩ := bind_t hM
   refine run_call rfl rfl rfl (ltb rfl) rfl rfl rfl (fun _ h => absurd h List.not_mem_nil) (s_l00Src_pick_ok (.bor 0) qc14 fc14 c14 c15 c16 tk9 false [(⟨#[122]⟩ : ByteArray), (⟨#[99]⟩ : ByteArray), (⟨#[97]⟩ : ByteArray)] hg21 _ _ rfl) (callK_retV_bor (k := 0) rfl (fun v o' tk' h => by obtain ⟨_, _, _, _, _, _, rfl, rfl, _⟩ := h; rfl) (fun v o'31 tk22 (hle23 : (tk9 + 1) ≤ tk22) h24 => ?_))
   obtain ⟨ra30, qc27, fc27, c27, c28, c29, rfl, rfl, rfl⟩ := h24
   refine run_call rfl rfl rfl (ltb rfl) rfl rfl rfl (fun _ h => absurd h List.not_mem_nil) (ACalls.args (args' := [.str ra30, .imm 0 4 true (cellss [])]) rfl (s_l01Const_ex ra30 0 true [] _ _)) (callK_retN ?_)
   skip
   refine run_op0 rfl (store_step hG rfl rfl rfl rfl rfl rfl rfl rfl) rfl ?_
   refine run_ops_nil ?_
   refine run_ret_to ?_
   replace hM := some_t hM
   subst hM
   refine fin_x hG rfl rfl rfl (v' := .agg [.int .i64 6, .int .i64 0, .str ra30, .imm 0 4 true (cellss [])]) (by rfl) ⟨_, ⟨99, 3, true, [[.imm qc27 1 fc27 ((c27 : List Int).map fun n => [AV.int .u8 n]), .int .i64 c28, .int .i64 c29]]⟩, rfl, rfl, (show tk ≤ tk22 by omega), ⟨_, qc27, fc27, c27, c28, c29, rfl, rfl, ⟨6, 0, ra30, 0, true, [], rfl, rfl, fun h => by cases h⟩⟩⟩
  ·replace hM := ite_f hb19 hM
   refine run_skip ?_
   refine run_sr ?_
   refine mvL rfl rfl rfl rfl (ltb rfl) ?_
   obtain ⟨r32, hg33, hM⟩ := bind_t hM
   refine run_call rfl rfl rfl (ltb rfl) rfl rfl rfl (fun _ h => absurd h List.not_mem_nil) (s_l00Src_next_ok (.bor 0) qc14 fc14 c14 c15 c16 4 hg33 _ _ rfl) (callK_retV_bor (k := 0) rfl (fun v o' tk' h => by obtain ⟨_, _, _, _, _, _, rfl, rfl, _⟩ := h; rfl) (fun v o'43 tk34 (hle35 : tk9 ≤ tk34) h36 => ?_))
   obtain ⟨ra42, qc39, fc39, c39, c40, c41, rfl, rfl, rfl⟩ := h36
   refine run_call rfl rfl rfl (ltb rfl) rfl rfl rfl (fun _ h => absurd h List.not_mem_nil) (ACalls.args (args' := [.int .i64 ra42, .imm 0 4 true (cellss [])]) rfl (s_l01Var_ex ra42 0 true [] _ _)) (callK_retN ?_)
   skip
   refine run_op0 rfl (store_step hG rfl rfl rfl rfl rfl rfl rfl rfl) rfl ?_
   refine run_ops_nil ?_
   refine run_ret_to ?_
   replace hM := some_t hM
   subst hM
   refine fin_x hG rfl rfl rfl (v' := .agg [.int .i64 5, .int .i64 ra42, .str ⟨#[]⟩, .imm 0 4 true (cellss [])]) (by rfl) ⟨_, ⟨99, 3, true, [[.imm qc39 1 fc39 ((c39 : List Int).map fun n => [AV.int .u8 n]), .int .i64 c40, .int .i64 c41]]⟩, rfl, rfl, (show tk ≤ tk34 by omega), ⟨_, qc39, fc39, c39, c40, c41, rfl, rfl, ⟨5, ra42, ⟨#[]⟩, 0, true, [], rfl, rfl, fun h => by cases h⟩⟩⟩
 ·replace hM := ite_f hb6 hM
  refine run_skip ?_
  refine run_seq ?_
  refine run_sr ?_
  refine mvL rfl rfl rfl rfl (ltb rfl) ?_
  obtain ⟨r44, hg45, hM⟩ := bind_t hM
  refine run_call rfl rfl rfl (ltb rfl) rfl rfl rfl (fun _ h => absurd h List.not_mem_nil) (s_l00Src_next_ok (.bor 0) q2 f2 l2 i3 i4 9 hg45 _ _ rfl) (callK_retV_bor (k := 0) rfl (fun v o' tk' h => by obtain ⟨_, _, _, _, _, _, rfl, rfl, _⟩ := h; rfl) (fun v o'55 tk46 (hle47 : tk ≤ tk46) h48 => ?_))
  obtain ⟨ra54, qc51, fc51, c51, c52, c53, rfl, rfl, rfl⟩ := h48
  refine run_ops_nil ?_
  refine run_block ?_
  refine run_seq ?_
  refine run_sr ?_
  refine run_bin rfl rfl rfl rfl rfl rfl rfl (ltb rfl) ?_
  refine mvR rfl rfl rfl rfl (ltb rfl) ?_
  refine run_ops_nil ?_
  obtain ⟨j56, hj154, hM⟩ := jn_t hM
  refine run_cutL [.code _] (fun σ' => ∃ (b57 : Bool) (tkj56 : Nat), tk46 ≤ tkj56 ∧ j56 b57 = some r ∧ Sub ⟨Go.Proofs.Tryd.prog, S0, Go.Proofs.Tryd.f33.ntmps, [X0], fun _ => False, []⟩ σ' ⟨[(0, .optr (.bor 0) 0 0), (1, .int .i64 i5), (4, .optr (.loc 4) 0 0), (17, .int .i64 ra54), (18, .bool b57)], [(4, ⟨25, 4, true, [[.int .i64 0, .int .i64 0, .str ⟨#[]⟩, .imm 0 4 true []]]⟩)], [⟨99, 3, true, [[.imm qc51 1 fc51 ((c51 : List Int).map fun n => [AV.int .u8 n]), .int .i64 c52, .int .i64 c53]]⟩], O, tkj56⟩) rfl ?_ ?_
  ·refine run_ifd rfl rfl (fun hb58 => ?_) (fun hb58 => ?_)
   ·replace hM := ite_t hb58 hM
    refine run_skip ?_
    exact ⟨(ra54 == 0), tk46, (show tk46 ≤ tk46 by omega), hM, Sub.env [(0, .optr (.bor 0) 0 0), (1, .int .i64 i5), (4, .optr (.loc 4) 0 0), (17, .int .i64 ra54), (18, .bool (ra54 == 0))] ⟨rfl, rfl, rfl, rfl, rfl, trivial⟩⟩
   ·replace hM := ite_f hb58 hM
    refine run_sr ?_
    refine run_bin rfl rfl rfl rfl rfl rfl rfl (ltb rfl) ?_
    refine mvR rfl rfl rfl rfl (ltb rfl) ?_
    refine run_ops_nil ?_
    refine run_ifd rfl rfl (fun hb59 => ?_) (fun hb59 => ?_)
    ·replace hM := ite_t hb59 hM
     refine run_skip ?_
     exact ⟨(ra54 == 1), tk46, (show tk46 ≤ tk46 by omega), hM, Sub.env [(0, .optr (.bor 0) 0 0), (1, .int .i64 i5), (4, .optr (.loc 4) 0 0), (17, .int .i64 ra54), (18, .bool (ra54 == 1))] ⟨rfl, rfl, rfl, rfl, rfl, trivial⟩⟩
    ·replace hM := ite_f hb59 hM
     refine run_region ?_
     refine run_bin rfl rfl rfl rfl rfl rfl rfl (ltb rfl) ?_
     refine mvR rfl rfl rfl rfl (ltb rfl) ?_
     refine run_ops_nil ?_
     exact ⟨(ra54 == 2), tk46, (show tk46 ≤ tk46 by omega), hM, Sub.env [(0, .optr (.bor 0) 0 0), (1, .int .i64 i5), (4, .optr (.loc 4) 0 0), (17, .int .i64 ra54), (18, .bool (ra54 == 2))] ⟨rfl, rfl, rfl, rfl, rfl, trivial⟩⟩
  ·clear hM
   rintro σ' ⟨b57, tkj56, hle153, hM, hsub⟩
   rw [hj154] at hM
   clear hj154
   refine run_sub_code hsub ?_
   refine run_ifb rfl rfl (fun hb60 => ?_) (fun hb60 => ?_)
   ·replace hM := ite_t hb60 hM
    refine run_sr ?_
    refine mvL rfl rfl rfl rfl (ltb rfl) ?_
    refine mvL rfl rfl rfl rfl (ltb rfl) ?_
    refine run_bin rfl rfl rfl rfl rfl rfl rfl (ltb rfl) ?_
    obtain ⟨r61, hg62, hM⟩ := bind_t hM
    refine run_call rfl rfl rfl (ltb rfl) rfl rfl rfl (fun _ h => absurd h List.not_mem_nil) (ih_s_l00Src_rawTerm (.bor 0) qc51 fc51 c51 c52 c53 (IntKind.i64.wrap (i5 - 1)) hg62 _ _ rfl) (callK_retV_bor (k := 0) rfl (fun v o' tk' h => by obtain ⟨_, _, _, _, _, _, rfl, rfl, _⟩ := h; rfl) (fun v o'72 tk63 (hle64 : tkj56 ≤ tk63) h65 => ?_))
    obtain ⟨ra71, qc68, fc68, c68, c69, c70, rfl, rfl, ⟨k66, n66, s66, q66, f66, ks66, rfl, rfl, hf67⟩⟩ := h65
    refine run_call rfl rfl rfl (ltb rfl) rfl rfl rfl (fun _ h => absurd h List.not_mem_nil) (s_l01Lam_ex k66 n66 s66 q66 f66 ks66 _ _) (callK_retN ?_)
    skip
    refine run_op0 rfl (store_step hG rfl rfl rfl rfl rfl rfl rfl rfl) rfl ?_
    refine run_ops_nil ?_
    refine run_ret_to ?_
    replace hM := some_t hM
    subst hM
    refine fin_x hG rfl rfl rfl (v' := .agg [.int .i64 4, .int .i64 0, .str ⟨#[]⟩, .imm tk63 4 false (cellss [LT.mk k66 n66 s66 q66 f66 ks66])]) (by rfl) ⟨_, ⟨99, 3, true, [[.imm qc68 1 fc68 ((c68 : List Int).map fun n => [AV.int .u8 n]), .int .i64 c69, .int .i64 c70]]⟩, rfl, rfl, (show tk ≤ (tk63 + 1) by omega), ⟨_, qc68, fc68, c68, c69, c70, rfl, rfl, ⟨4, 0, ⟨#[]⟩, tk63, false, [LT.mk k66 n66 s66 q66 f66 ks66], rfl, rfl, fun h => by cases h⟩⟩⟩
   ·replace hM := ite_f hb60 hM
    refine run_seq ?_
    refine run_sr ?_
    refine run_bin rfl rfl rfl rfl rfl rfl rfl (ltb rfl) ?_
    refine mvR rfl rfl rfl rfl (ltb rfl) ?_
    refine run_ops_nil ?_
    obtain ⟨j73, hj152, hM⟩ := jn_t hM
    refine run_cutL [.code _] (fun σ' => ∃ (b74 : Bool) (tkj73 : Nat), tkj56 ≤ tkj73 ∧ j73 b74 = some r ∧ Sub ⟨Go.Proofs.Tryd.prog, S0, Go.Proofs.Tryd.f33.ntmps, [X0], fun _ => False, []⟩ σ' ⟨[(0, .optr (.bor 0) 0 0), (1, .int .i64 i5), (4, .optr (.loc 4) 0 0), (17, .int .i64 ra54), (27, .bool b74)], [(4, ⟨25, 4, true, [[.int .i64 0, .int .i64 0, .str ⟨#[]⟩, .imm 0 4 true []]]⟩)], [⟨99, 3, true, [[.imm qc51 1 fc51 ((c51 : List Int).map fun n => [AV.int .u8 n]), .int .i64 c52, .int .i64 c53]]⟩], O, tkj73⟩) rfl ?_ ?_
    ·refine run_ifd rfl rfl (fun hb75 => ?_) (fun hb75 => ?_)
     ·replace hM := ite_t hb75 hM
      refine run_skip ?_
      exact ⟨(ra54 == 3), tkj56, (show tkj56 ≤ tkj56 by omega), hM, Sub.env [(0, .optr (.bor 0) 0 0), (1, .int .i64 i5), (4, .optr (.loc 4) 0 0), (17, .int .i64 ra54), (27, .bool (ra54 == 3))] ⟨rfl, rfl, rfl, rfl, rfl, trivial⟩⟩
     ·replace hM := ite_f hb75 hM
      refine run_sr ?_
      refine run_bin rfl rfl rfl rfl rfl rfl rfl (ltb rfl) ?_
      refine mvR rfl rfl rfl rfl (ltb rfl) ?_
      refine run_ops_nil ?_
      refine run_ifd rfl rfl (fun hb76 => ?_) (fun hb76 => ?_)
      ·replace hM := ite_t hb76 hM
       refine run_skip ?_
       exact ⟨(ra54 == 4), tkj56, (show tkj56 ≤ tkj56 by omega), hM, Sub.env [(0, .optr (.bor 0) 0 0), (1, .int .i64 i5), (4, .optr (.loc 4) 0 0), (17, .int .i64 ra54), (27, .bool (ra54 == 4))] ⟨rfl, rfl, rfl, rfl, rfl, trivial⟩⟩
      ·replace hM := ite_f hb76 hM
       refine run_region ?_
       refine run_bin rfl rfl rfl rfl rfl rfl rfl (ltb rfl) ?_
       refine mvR rfl rfl rfl rfl (ltb rfl) ?_
       refine run_ops_nil ?_
       exact ⟨(ra54 == 5), tkj56, (show tkj56 ≤ tkj56 by omega), hM, Sub.env [(0, .optr (.bor 0) 0 0), (1, .int .i64 i5), (4, .optr (.loc 4) 0 0), (17, .int .i64 ra54), (27, .bool (ra54 == 5))] ⟨rfl, rfl, rfl, rfl, rfl, trivial⟩⟩
    ·clear hM
     rintro σ' ⟨b74, tkj73, hle151, hM, hsub⟩
     rw [hj152] at hM
     clear hj152
     refine run_sub_code hsub ?_
     refine run_ifb rfl rfl (fun hb77 => ?_) (fun hb77 => ?_)
     ·replace hM := ite_t hb77 hM
      refine run_sr ?_
      refine mvL rfl rfl rfl rfl (ltb rfl) ?_
      obtain ⟨r78, hg79, hM⟩ := bind_t hM
      refine run_call rfl rfl rfl (ltb rfl) rfl rfl rfl (fun _ h => absurd h List.not_mem_nil) (s_l00Src_next_ok (.bor 0) qc51 fc51 c51 c52 c53 4 hg79 _ _ rfl) (callK_retV_bor (k := 0) rfl (fun v o' tk' h => by obtain ⟨_, _, _, _, _, _, rfl, rfl, _⟩ := h; rfl) (fun v o'89 tk80 (hle81 : tkj73 ≤ tk80) h82 => ?_))
      obtain ⟨ra88, qc85, fc85, c85, c86, c87, rfl, rfl, rfl⟩ := h82
      refine mvL rfl rfl rfl rfl (ltb rfl) ?_
      refine mvL rfl rfl rfl rfl (ltb rfl) ?_
      obtain ⟨r90, hg91, hM⟩ := bind_t hM
      refine run_call rfl rfl rfl (ltb rfl) rfl rfl rfl (fun _ h => absurd h List.not_mem_nil) (ih_s_l00Src_spine (.bor 0) qc85 fc85 c85 c86 c87 i5 2 hg91 _ _ rfl) (callK_retV_bor (k := 0) rfl (fun v o' tk' h => by obtain ⟨_, _, _, _, _, _, rfl, rfl, _⟩ := h; rfl) (fun v o'101 tk92 (hle93 : tk80 ≤ tk92) h94 => ?_))
      obtain ⟨ra100, qc97, fc97, c97, c98, c99, rfl, rfl, ⟨q95, f95, ks95, rfl, rfl, hf96⟩⟩ := h94
      refine run_call rfl rfl rfl (ltb rfl) rfl rfl rfl (fun _ h => absurd h List.not_mem_nil) (s_l01Var_ex ra88 q95 f95 ks95 _ _) (callK_retN ?_)
      skip
      refine run_op0 rfl (store_step hG rfl rfl rfl rfl rfl rfl rfl rfl) rfl ?_
      refine run_ops_nil ?_
      refine run_ret_to ?_
      replace hM := some_t hM
      subst hM
      refine fin_x hG rfl rfl rfl (v' := .agg [.int .i64 5, .int .i64 ra88, .str ⟨#[]⟩, .imm q95 4 f95 (cellss ks95)]) (by rfl) ⟨_, ⟨99, 3, true, [[.imm qc97 1 fc97 ((c97 : List Int).map fun n => [AV.int .u8 n]), .int .i64 c98, .int .i64 c99]]⟩, rfl, rfl, (show tk ≤ tk92 by omega), ⟨_, qc97, fc97, c97, c98, c99, rfl, rfl, ⟨5, ra88, ⟨#[]⟩, q95, f95, ks95, rfl, rfl, fun h => by cases h⟩⟩⟩
     ·replace hM := ite_f hb77 hM
      refine run_sr ?_
      refine run_bin rfl rfl rfl rfl rfl rfl rfl (ltb rfl) ?_
      refine mvR rfl rfl rfl rfl (ltb rfl) ?_
      refine run_ops_nil ?_
      refine run_ifd rfl rfl (fun hb102 => ?_) (fun hb102 => ?_)
      ·replace hM := ite_t hb102 hM
       refine run_sr ?_
       refine mvL rfl rfl rfl rfl (ltb rfl) ?_
       obtain ⟨r103, hg104, hM⟩ := bind_t hM
       refine run_call rfl rfl rfl (ltb rfl) rfl rfl rfl (fun _ h => absurd h List.not_mem_nil) (s_l00Src_next_ok (.bor 0) qc51 fc51 c51 c52 c53 3 hg104 _ _ rfl) (callK_retV_bor (k := 0) rfl (fun v o' tk' h => by obtain ⟨_, _, _, _, _, _, rfl, rfl, _⟩ := h; rfl) (fun v o'114 tk105 (hle106 : tkj73 ≤ tk105) h107 => ?_))
       obtain ⟨ra113, qc110, fc110, c110, c111, c112, rfl, rfl, rfl⟩ := h107
       refine mvL rfl rfl rfl rfl (ltb rfl) ?_
       refine mvL rfl rfl rfl rfl (ltb rfl) ?_
       obtain ⟨r115, hg116, hM⟩ := bind_t hM
       refine run_call rfl rfl rfl (ltb rfl) rfl rfl rfl (fun _ h => absurd h List.not_mem_nil) (ih_s_l00Src_spine (.bor 0) qc110 fc110 c110 c111 c112 i5 2 hg116 _ _ rfl) (callK_retV_bor (k := 0) rfl (fun v o' tk' h => by obtain ⟨_, _, _, _, _, _, rfl, rfl, _⟩ := h; rfl) (fun v o'126 tk117 (hle118 : tk105 ≤ tk117) h119 => ?_))
       obtain ⟨ra125, qc122, fc122, c122, c123, c124, rfl, rfl, ⟨q120, f120, ks120, rfl, rfl, hf121⟩⟩ := h119
       refine run_pu rfl (build_step hG rfl (by rfl) rfl (fun h => by cases h) (by rfl)) rfl (ltb rfl) ?_
       refine run_op0 rfl (store_step hG rfl rfl rfl rfl rfl rfl rfl rfl) rfl ?_
       refine run_ops_nil ?_
       refine run_ret_to ?_
       replace hM := some_t hM
       subst hM
       refine fin_x hG rfl rfl rfl (v' := .agg [.int .i64 7, .int .i64 ra113, .str ⟨#[]⟩, .imm q120 4 f120 (cellss ks120)]) (by rfl) ⟨_, ⟨99, 3, true, [[.imm qc122 1 fc122 ((c122 : List Int).map fun n => [AV.int .u8 n]), .int .i64 c123, .int .i64 c124]]⟩, rfl, rfl, (show tk ≤ tk117 by omega), ⟨_, qc122, fc122, c122, c123, c124, rfl, rfl, ⟨7, ra113, ⟨#[]⟩, q120, f120, ks120, rfl, rfl, fun h => by cases h⟩⟩⟩
      ·replace hM := ite_f hb102 hM
       refine run_skip ?_
       refine run_blk ?_
       refine run_sr ?_
       refine mvL rfl rfl rfl rfl (ltb rfl) ?_
       refine run_op rfl (buildSlice_step (d := 46) hG rfl rfl rfl rfl rfl (by rfl) (by rfl) (by rfl) (by decide)) rfl (ltb rfl) ?_
       refine run_sub_ops (Sub.freeze (k := 46) rfl rfl) ?_
       obtain ⟨r127, hg128, hM⟩ := bind_t hM
       refine run_call rfl rfl rfl (ltb rfl) rfl rfl rfl (fun _ h => absurd h List.not_mem_nil) (s_l00Src_pick_ok (.bor 0) qc51 fc51 c51 c52 c53 tkj73 false [(⟨#[115]⟩ : ByteArray), (⟨#[99]⟩ : ByteArray), (⟨#[122]⟩ : ByteArray)] hg128 _ _ rfl) (callK_retV_bor (k := 0) rfl (fun v o' tk' h => by obtain ⟨_, _, _, _, _, _, rfl, rfl, _⟩ := h; rfl) (fun v o'138 tk129 (hle130 : (tkj73 + 1) ≤ tk129) h131 => ?_))
       obtain ⟨ra137, qc134, fc134, c134, c135, c136, rfl, rfl, rfl⟩ := h131
       refine mvL rfl rfl rfl rfl (ltb rfl) ?_
       refine mvL rfl rfl rfl rfl (ltb rfl) ?_
       obtain ⟨r139, hg140, hM⟩ := bind_t hM
       refine run_call rfl rfl rfl (ltb rfl) rfl rfl rfl (fun _ h => absurd h List.not_mem_nil) (ih_s_l00Src_spine (.bor 0) qc134 fc134 c134 c135 c136 i5 2 hg140 _ _ rfl) (callK_retV_bor (k := 0) rfl (fun v o' tk' h => by obtain ⟨_, _, _, _, _, _, rfl, rfl, _⟩ := h; rfl) (fun v o'150 tk141 (hle142 : tk129 ≤ tk141) h143 => ?_))
       obtain ⟨ra149, qc146, fc146, c146, c147, c148, rfl, rfl, ⟨q144, f144, ks144, rfl, rfl, hf145⟩⟩ := h143
       refine run_call rfl rfl rfl (ltb rfl) rfl rfl rfl (fun _ h => absurd h List.not_mem_nil) (s_l01Const_ex ra137 q144 f144 ks144 _ _) (callK_retN ?_)
       skip
       refine run_op0 rfl (store_step hG rfl rfl rfl rfl rfl rfl rfl rfl) rfl ?_
       refine run_ops_nil ?_
       refine run_ret_to ?_
       replace hM := some_t hM
       subst hM
       refine fin_x hG rfl rfl rfl (v' := .agg [.int .i64 6, .int .i64 0, .str ra137, .imm q144 4 f144 (cellss ks144)]) (by rfl) ⟨_, ⟨99, 3, true, [[.imm qc146 1 fc146 ((c146 : List Int).map fun n => [AV.int .u8 n]), .int .i64 c147, .int .i64 c148]]⟩, rfl, rfl, (show tk ≤ tk141 by omega), ⟨_, qc146, fc146, c146, c147, c148, rfl, rfl, ⟨6, 0, ra137, q144, f144, ks144, rfl, rfl, fun h => by cases h⟩⟩⟩

set_option maxRecDepth 100000 in
theorem s_l00Src_spine_st (n : Nat) (ih_s_l00Src_rawTerm : ∀ (X0 : ID) (q2 : Nat) (f2 : Bool) (l2 : List Int) (i3 : Int) (i4 : Int) (i5 : Int) {r : (T × (List Int × Int × Int))}, s_l00Src_rawTerm n (l2, i3, i4) i5 = some r → ∀ (O : Heap) (tk : Nat), O X0 = some ⟨99, 3, true, [[.imm q2 1 f2 ((l2 : List Int).map fun n => [AV.int .u8 n]), .int .i64 i3, .int .i64 i4]]⟩ → ACalls Go.Proofs.Tryd.prog 33 [.optr X0 0 0, .int .i64 i5] O tk (RetV O X0 tk (fun v o' tk' => ∃ r0', ∃ (c0q : Nat) (c0f : Bool) (c0 : List Int) (c1 : Int) (c2 : Int) , r = (r0', (c0, c1, c2)) ∧ o' = ⟨99, 3, true, [[.imm c0q 1 c0f ((c0 : List Int).map fun n => [AV.int .u8 n]), .int .i64 c1, .int .i64 c2]]⟩ ∧ VT false tk tk' r0' v))) : ∀ (X0 : ID) (q2 : Nat) (f2 : Bool) (l2 : List Int) (i3 : Int) (i4 : Int) (i5 : Int) (i6 : Int) {r : (List T × (List Int × Int × Int))}, s_l00Src_spine (n + 1) (l2, i3, i4) i5 i6 = some r → ∀ (O : Heap) (tk : Nat), O X0 = some ⟨99, 3, true, [[.imm q2 1 f2 ((l2 : List Int).map fun n => [AV.int .u8 n]), .int .i64 i3, .int .i64 i4]]⟩ → ACalls Go.Proofs.Tryd.prog 88 [.optr X0 0 0, .int .i64 i5, .int .i64 i6] O tk (RetV O X0 tk (fun v o' tk' => ∃ r0', ∃ (c0q : Nat) (c0f : Bool) (c0 : List Int) (c1 : Int) (c2 : Int) , r = (r0', (c0, c1, c2)) ∧ o' = ⟨99, 3, true, [[.imm c0q 1 c0f ((c0 : List Int).map fun n => [AV.int .u8 n]), .int .i64 c1, .int .i64 c2]]⟩ ∧ VTs false tk tk' r0' v)) := by
 intro X0 q2 f2 l2 i3 i4 i5 i6 r hM O tk hX0
 rw [s_l00Src_spine] at hM
 refine acalls_of_run Go.Proofs.Tryd.func88 rfl rfl [X0] [⟨99, 3, true, [[.imm q2 1 f2 ((l2 : List Int).map fun n => [AV.int .u8 n]), .int .i64 i3, .int .i64 i4]]⟩] (Bor.one hX0 rfl) [(0, .optr (.bor 0) 0 0), (1, .int .i64 i5), (2, .int .i64 i6)] (.cons (.bor 0 _ _ _ rfl) (.cons (entS rfl) (.cons (entS rfl) (.nil _)))) (leb rfl) (by intro y h; simp only [List.mem_cons, List.not_mem_nil, or_false] at h; rcases h with rfl <;> simp [tch, tch0]) (fun S0 hO htk hfz => ?_)
 refine run_sr ?_
 refine mvR rfl rfl rfl rfl (ltb rfl) ?_
 refine run_ops_nil ?_
 refine run_sr ?_
 refine run_op rfl (buildSlice_step (d := 9) hG rfl rfl rfl rfl rfl (by rfl) (by rfl) (by rfl) (by decide)) rfl (ltb rfl) ?_
 refine mvR rfl rfl rfl rfl (ltb rfl) ?_
 refine run_ops_nil ?_
 refine run_seq ?_
 refine run_sr ?_
 refine mvL rfl rfl rfl rfl (ltb rfl) ?_
 refine mvL rfl rfl rfl rfl (ltb rfl) ?_
 refine run_bin rfl rfl rfl rfl rfl rfl rfl (ltb rfl) ?_
 obtain ⟨r7, hg8, hM⟩ := bind_t hM
 refine run_call rfl rfl rfl (ltb rfl) rfl rfl rfl (fun _ h => absurd h List.not_mem_nil) (s_l00Src_next_ok (.bor 0) q2 f2 l2 i3 i4 (IntKind.i64.wrap (i6 + 1)) hg8 _ _ rfl) (callK_retV_bor (k := 0) rfl (fun v o' tk' h => by obtain ⟨_, _, _, _, _, _, rfl, rfl, _⟩ := h; rfl) (fun v o'18 tk9 (hle10 : tk ≤ tk9) h11 => ?_))
 obtain ⟨ra17, qc14, fc14, c14, c15, c16, rfl, rfl, rfl⟩ := h11
 refine mvR rfl rfl rfl rfl (ltb rfl) ?_
 refine run_ops_nil ?_
 refine run_block ?_
 refine run_rounds (fun m σ => ∃ (i19 : Int) (q20 : Nat) (f20 : Bool) (l20 : List Int) (i21 : Int) (i22 : Int) (ks23 : List LT) (tks_l00Src_spine_L1 : Nat), tk9 ≤ tks_l00Src_spine_L1 ∧ s_l00Src_spine_L1 (s_l00Src_rawTerm n) i5 m i19 l20 i21 i22 (ers ks23) = some r ∧ σ = ⟨[(0, .optr (.bor 0) 0 0), (1, .int .i64 i5), (6, .imm 0 0 true []), (7, .osl (.loc 9)), (8, .int .i64 i19)], [(9, ⟨25, 4, false, cellss ks23⟩)], [⟨99, 3, true, [[.imm q20 1 f20 ((l20 : List Int).map fun n => [AV.int .u8 n]), .int .i64 i21, .int .i64 i22]]⟩], O, tks_l00Src_spine_L1⟩) n (Sub.env [(0, .optr (.bor 0) 0 0), (1, .int .i64 i5), (6, .imm 0 0 true []), (7, .osl (.loc 9)), (8, .int .i64 ra17)] ⟨rfl, rfl, rfl, rfl, rfl, trivial⟩) ⟨ra17, qc14, fc14, c14, c15, c16, [], tk9, Nat.le_refl _, hM, rfl⟩ (fun m σ hI => ?_)
 clear hM
 obtain ⟨i19, q20, f20, l20, i21, i22, ks23, tks_l00Src_spine_L1, hle38, hM, rfl⟩ := hI
 obtain _ | m := m
 ·exact absurd hM (by rw [s_l00Src_spine_L1]; exact fun h => by cases h)
 rw [s_l00Src_spine_L1] at hM
 refine run_seq ?_
 refine run_sr ?_
 refine mvL rfl rfl rfl rfl (ltb rfl) ?_
 refine run_bin rfl rfl rfl rfl rfl rfl rfl (ltb rfl) ?_
 refine run_ops_nil ?_
 refine run_ifd rfl rfl (fun hb24 => ?_) (fun hb24 => ?_)
 ·replace hM := ite_t hb24 hM
  refine run_skip ?_
  refine run_seq ?_
  refine run_block ?_
  refine run_region ?_
  refine mvL rfl rfl rfl rfl (ltb rfl) ?_
  refine mvL rfl rfl rfl rfl (ltb rfl) ?_
  refine mvL rfl rfl rfl rfl (ltb rfl) ?_
  refine run_bin rfl rfl rfl rfl rfl rfl rfl (ltb rfl) ?_
  obtain ⟨r25, hg26, hM⟩ := bind_t hM
  refine run_call rfl rfl rfl (ltb rfl) rfl rfl rfl (fun _ h => absurd h List.not_mem_nil) (ih_s_l00Src_rawTerm (.bor 0) q20 f20 l20 i21 i22 (IntKind.i64.wrap (i5 - 1)) hg26 _ _ rfl) (callK_retV_bor (k := 0) rfl (fun v o' tk' h => by obtain ⟨_, _, _, _, _, _, rfl, rfl, _⟩ := h; rfl) (fun v o'36 tk27 (hle28 : tks_l00Src_spine_L1 ≤ tk27) h29 => ?_))
  obtain ⟨ra35, qc32, fc32, c32, c33, c34, rfl, rfl, ⟨k30, n30, s30, q30, f30, ks30, rfl, rfl, hf31⟩⟩ := h29
  refine run_op rfl (buildSlice_step (d := 23) hG rfl rfl rfl rfl rfl (by rfl) (by rfl) (by rfl) (by decide)) rfl (ltb rfl) ?_
  obtain ⟨hc37, hM⟩ := chk_t hM
  try rw [show ((ers ks23) ++ [(T.mk k30 n30 s30 (ers ks30))] : List T) = (ers (ks23 ++ [LT.mk k30 n30 s30 q30 f30 ks30])) from ers_app ks23 [LT.mk k30 n30 s30 q30 f30 ks30]] at hM
  refine run_op rfl (appendM_step hG rfl rfl rfl rfl rfl rfl rfl rfl rfl rfl rfl (cellss_sz ([LT.mk k30 n30 s30 q30 f30 ks30])) (tlen ks23) (tlen ([LT.mk k30 n30 s30 q30 f30 ks30])) hc37 (by decide) (cellss_app _ _)) rfl (ltb rfl) ?_
  refine mvR rfl rfl rfl rfl (ltb rfl) ?_
  refine run_ops_nil ?_
  refine run_blk ?_
  refine run_region ?_
  refine mvL rfl rfl rfl rfl (ltb rfl) ?_
  refine run_bin rfl rfl rfl rfl rfl rfl rfl (ltb rfl) ?_
  refine mvR rfl rfl rfl rfl (ltb rfl) ?_
  refine run_ops_nil ?_
  exact run_loop_end ⟨m, _, Nat.lt_succ_self _, ⟨(IntKind.i64.wrap (i19 - 1)), qc32, fc32, c32, c33, c34, (ks23 ++ [LT.mk k30 n30 s30 q30 f30 ks30]), tk27, (show tk9 ≤ tk27 by omega), hM, rfl⟩, Sub.trans (Sub.drop (k := 23) rfl) (Sub.env [(0, .optr (.bor 0) 0 0), (1, .int .i64 i5), (6, .imm 0 0 true []), (7, .osl (.loc 9)), (8, .int .i64 (IntKind.i64.wrap (i19 - 1)))] ⟨rfl, rfl, rfl, rfl, rfl, trivial⟩)⟩
 ·replace hM := ite_f hb24 hM
  refine run_exit_to rfl ?_
  refine run_sr ?_
  refine mvL rfl rfl rfl rfl (ltb rfl) ?_
  refine mvR rfl rfl rfl rfl (ltb rfl) ?_
  refine run_ops_nil ?_
  refine run_ret_to ?_
  refine fin_sub (Sub.freeze (k := 9) rfl rfl) ?_
  replace hM := some_t hM
  subst hM
  refine fin_x hG rfl rfl rfl (v' := .imm tks_l00Src_spine_L1 4 false (cellss ks23)) (by rfl) ⟨_, ⟨99, 3, true, [[.imm q20 1 f20 ((l20 : List Int).map fun n => [AV.int .u8 n]), .int .i64 i21, .int .i64 i22]]⟩, rfl, rfl, (show tk ≤ (tks_l00Src_spine_L1 + 1) by omega), ⟨_, q20, f20, l20, i21, i22, rfl, rfl, ⟨tks_l00Src_spine_L1, false, ks23, rfl, rfl, fun h => by cases h⟩⟩⟩

theorem s_l00Src_rawTerm_all : ∀ (n : Nat), (∀ (X0 : ID) (q2 : Nat) (f2 : Bool) (l2 : List Int) (i3 : Int) (i4 : Int) (i5 : Int) {r : (T × (List Int × Int × Int))}, s_l00Src_rawTerm n (l2, i3, i4) i5 = some r → ∀ (O : Heap) (tk : Nat), O X0 = some ⟨99, 3, true, [[.imm q2 1 f2 ((l2 : List Int).map fun n => [AV.int .u8 n]), .int .i64 i3, .int .i64 i4]]⟩ → ACalls Go.Proofs.Tryd.prog 33 [.optr X0 0 0, .int .i64 i5] O tk (RetV O X0 tk (fun v o' tk' => ∃ r0', ∃ (c0q : Nat) (c0f : Bool) (c0 : List Int) (c1 : Int) (c2 : Int) , r = (r0', (c0, c1, c2)) ∧ o' = ⟨99, 3, true, [[.imm c0q 1 c0f ((c0 : List Int).map fun n => [AV.int .u8 n]), .int .i64 c1, .int .i64 c2]]⟩ ∧ VT false tk tk' r0' v))) ∧ (∀ (X0 : ID) (q2 : Nat) (f2 : Bool) (l2 : List Int) (i3 : Int) (i4 : Int) (i5 : Int) (i6 : Int) {r : (List T × (List Int × Int × Int))}, s_l00Src_spine n (l2, i3, i4) i5 i6 = some r → ∀ (O : Heap) (tk : Nat), O X0 = some ⟨99, 3, true, [[.imm q2 1 f2 ((l2 : List Int).map fun n => [AV.int .u8 n]), .int .i64 i3, .int .i64 i4]]⟩ → ACalls Go.Proofs.Tryd.prog 88 [.optr X0 0 0, .int .i64 i5, .int .i64 i6] O tk (RetV O X0 tk (fun v o' tk' => ∃ r0', ∃ (c0q : Nat) (c0f : Bool) (c0 : List Int) (c1 : Int) (c2 : Int) , r = (r0', (c0, c1, c2)) ∧ o' = ⟨99, 3, true, [[.imm c0q 1 c0f ((c0 : List Int).map fun n => [AV.int .u8 n]), .int .i64 c1, .int .i64 c2]]⟩ ∧ VTs false tk tk' r0' v)))
 | 0 => ⟨(by intro X0 q2 f2 l2 i3 i4 i5 r hM; rw [s_l00Src_rawTerm] at hM; cases hM), (by intro X0 q2 f2 l2 i3 i4 i5 i6 r hM; rw [s_l00Src_spine] at hM; cases hM)⟩
 | n + 1 => have ih := s_l00Src_rawTerm_all n; ⟨s_l00Src_rawTerm_st n (ih.1) (ih.2), s_l00Src_spine_st n (ih.1)⟩

theorem s_l00Src_rawTerm_ok (n : Nat) : ∀ (X0 : ID) (q2 : Nat) (f2 : Bool) (l2 : List Int) (i3 : Int) (i4 : Int) (i5 : Int) {r : (T × (List Int × Int × Int))}, s_l00Src_rawTerm n (l2, i3, i4) i5 = some r → ∀ (O : Heap) (tk : Nat), O X0 = some ⟨99, 3, true, [[.imm q2 1 f2 ((l2 : List Int).map fun n => [AV.int .u8 n]), .int .i64 i3, .int .i64 i4]]⟩ → ACalls Go.Proofs.Tryd.prog 33 [.optr X0 0 0, .int .i64 i5] O tk (RetV O X0 tk (fun v o' tk' => ∃ r0', ∃ (c0q : Nat) (c0f : Bool) (c0 : List Int) (c1 : Int) (c2 : Int) , r = (r0', (c0, c1, c2)) ∧ o' = ⟨99, 3, true, [[.imm c0q 1 c0f ((c0 : List Int).map fun n => [AV.int .u8 n]), .int .i64 c1, .int .i64 c2]]⟩ ∧ VT false tk tk' r0' v)) := (s_l00Src_rawTerm_all n).1

def s_TermOf (n : Nat) (l1 : List Int) : Option (T × Int) :=
 (s_l00Src_next (l1, 0, (Int.tmod ((l1).length : Int) 1000)) 4).bind fun r2 =>
 (s_l00Src_rawTerm n (r2.2.1, r2.2.2.1, r2.2.2.2) (IntKind.i64.wrap (1 + r2.1))).bind fun r14 =>
 (s_l00Src_next (r14.2.1, r14.2.2.1, r14.2.2.2) 5).bind fun r26 =>
 some (r14.1, (IntKind.i64.wrap (4 + r26.1)))

set_option maxRecDepth 100000 in
theorem s_TermOf_ok (n : Nat) : ∀ (q1 : Nat) (f1 : Bool) (l1 : List Int) {r : (T × Int)}, s_TermOf n l1 = some r → ∀ (O : Heap) (tk : Nat), ACalls Go.Proofs.Tryd.prog 8 [.imm q1 1 f1 ((l1 : List Int).map fun n => [AV.int .u8 n])] O tk (RetX O tk (fun v tk' => ∃ r0' r1' v0' v1', r = (r0', r1') ∧ v = .tup [v0', v1'] ∧ VT false tk tk' r0' v0' ∧ v1' = .int .i64 r1')) := by
 intro q1 f1 l1 r hM O tk
 unfold s_TermOf at hM
 refine acalls_of_run Go.Proofs.Tryd.func8 rfl rfl [] [] (Bor.nil _) [(0, .imm q1 1 f1 ((l1 : List Int).map fun n => [AV.int .u8 n]))] (.cons (entS rfl) (.nil _)) (leb rfl) (fun _ h => by cases h) (fun S0 hO htk hfz => ?_)
 refine run_sr ?_
 refine run_op rfl (alloc_step (d := 2) hG rfl rfl rfl) rfl (ltb rfl) ?_
 refine mvR rfl rfl rfl rfl (ltb rfl) ?_
 refine run_ops_nil ?_
 refine run_sr ?_
 refine mvL rfl rfl rfl rfl (ltb rfl) ?_
 refine run_callBox (ob := ⟨99, 3, true, [[.imm q1 1 f1 ((l1 : List Int).map fun n => [AV.int .u8 n]), .int .i64 0, .int .i64 (Int.tmod ((l1).length : Int) 1000)]]⟩) rfl rfl rfl (ltb rfl) rfl rfl rfl rfl (s_l00Source_box q1 f1 l1 _ _) rfl (fun out O' tk' h => h) ?_
 refine mvR rfl rfl rfl rfl (ltb rfl) ?_
 refine run_ops_nil ?_
 refine run_sr ?_
 refine mvL rfl rfl rfl rfl (ltb rfl) ?_
 refine mvL rfl rfl rfl rfl (ltb rfl) ?_
 obtain ⟨r2, hg3, hM⟩ := bind_t hM
 refine run_call rfl rfl rfl (ltb rfl) rfl rfl rfl (fun _ h => absurd h List.not_mem_nil) (s_l00Src_next_ok (.loc 6) q1 f1 l1 0 (Int.tmod ((l1).length : Int) 1000) 4 hg3 _ _ rfl) (callK_retV_loc (k := 6) rfl (fun v o'13 tk4 (hle5 : tk ≤ tk4) h6 => ?_))
 obtain ⟨ra12, qc9, fc9, c9, c10, c11, rfl, rfl, rfl⟩ := h6
 refine run_bin rfl rfl rfl rfl rfl rfl rfl (ltb rfl) ?_
 obtain ⟨r14, hg15, hM⟩ := bind_t hM
 refine run_call rfl rfl rfl (ltb rfl) rfl rfl rfl (fun _ h => absurd h List.not_mem_nil) (s_l00Src_rawTerm_ok n (.loc 6) qc9 fc9 c9 c10 c11 (IntKind.i64.wrap (1 + ra12)) hg15 _ _ rfl) (callK_retV_loc (k := 6) rfl (fun v o'25 tk16 (hle17 : tk4 ≤ tk16) h18 => ?_))
 obtain ⟨ra24, qc21, fc21, c21, c22, c23, rfl, rfl, ⟨k19, n19, s19, q19, f19, ks19, rfl, rfl, hf20⟩⟩ := h18
 refine mvL rfl rfl rfl rfl (ltb rfl) ?_
 obtain ⟨r26, hg27, hM⟩ := bind_t hM
 refine run_call rfl rfl rfl (ltb rfl) rfl rfl rfl (fun _ h => absurd h List.not_mem_nil) (s_l00Src_next_ok (.loc 6) qc21 fc21 c21 c22 c23 5 hg27 _ _ rfl) (callK_retV_loc (k := 6) rfl (fun v o'37 tk28 (hle29 : tk16 ≤ tk28) h30 => ?_))
 obtain ⟨ra36, qc33, fc33, c33, c34, c35, rfl, rfl, rfl⟩ := h30
 refine run_bin rfl rfl rfl rfl rfl rfl rfl (ltb rfl) ?_
 refine run_op0 rfl (store_step hG rfl rfl rfl rfl rfl rfl rfl rfl) rfl ?_
 refine mvR rfl rfl rfl rfl (ltb rfl) ?_
 refine run_ops_nil ?_
 refine run_ret_to ?_
 replace hM := some_t hM
 subst hM
 refine fin_x hG rfl rfl rfl (v' := .tup [.agg [.int .i64 k19, .int .i64 n19, .str s19, .imm q19 4 f19 (cellss ks19)], .int .i64 (IntKind.i64.wrap (4 + ra36))]) (by rfl) ⟨rfl, (show tk ≤ tk28 by omega), _, rfl, ⟨_, _, _, _, rfl, rfl, ⟨k19, n19, s19, q19, f19, ks19, rfl, rfl, fun h => by cases h⟩, rfl⟩⟩

end Go.Am.YtaedacibojpfkaaDoor
