/- Printed by a program of ours: Lean functions that do what the Go functions do, and the contracts. -/
import Derived.Test.YtaedacibojpfkaaDoorMl0
import Derived.Test.YtaedacibojpfkaaDoorMb1
import Derived.Test.YtaedacibojpfkaaDoorTypes
import Derived.Test.YtaedacibojpfkaaDoorMi4
import Derived.Test.YtaedacibojpfkaaDoorMc1
import Derived.Test.YtaedacibojpfkaaDoorMb3
import Derived.Test.YtaedacibojpfkaaDoorGs0
import Derived.Test.YtaedacibojpfkaaDoorGsD
-- packed
namespace Go.Am.YtaedacibojpfkaaDoor
open Go Go.Am

set_option maxRecDepth 100000 in
theorem s_l01Var_ex (i1 : Int) (q2 : Nat) (f2 : Bool) (ks2 : List LT) (O : Heap) (tk : Nat) : ACalls Go.Proofs.Tryd.prog 54 [.int .i64 i1, .imm q2 4 f2 (cellss ks2)] O tk (RetN O (.agg [.int .i64 5, .int .i64 i1, .str ⟨#[]⟩, .imm q2 4 f2 (cellss ks2)]) tk) := by
 refine acalls_of_run Go.Proofs.Tryd.func54 rfl rfl [] [] (Bor.nil _) [(0, .int .i64 i1), (1, .imm q2 4 f2 (cellss ks2))] (.cons (entS rfl) (.cons (entS rfl) (.nil _))) (leb rfl) (fun _ h => by cases h) (fun S0 hO htk hfz => ?_)
 refine run_sr ?_
 refine run_op rfl (alloc_step (d := 4) hG rfl rfl rfl) rfl (ltb rfl) ?_
 refine run_ops_nil ?_
 refine run_sr ?_
 refine mvL rfl rfl rfl rfl (ltb rfl) ?_
 refine mvL rfl rfl rfl rfl (ltb rfl) ?_
 refine run_pu rfl (build_step hG rfl (by rfl) rfl (fun h => by cases h) (by rfl)) rfl (ltb rfl) ?_
 refine run_op0 rfl (store_step hG rfl rfl rfl rfl rfl rfl rfl rfl) rfl ?_
 refine run_ops_nil ?_
 refine run_ret_to ?_
 refine fin_x hG rfl rfl rfl (v' := .agg [.int .i64 5, .int .i64 i1, .str ⟨#[]⟩, .imm q2 4 f2 (cellss ks2)]) (by rfl) ⟨rfl, rfl, rfl⟩

set_option maxRecDepth 100000 in
theorem s_l01Lam_ex (k1 : Int) (n1 : Int) (s1 : ByteArray) (q1 : Nat) (f1 : Bool) (ks1 : List LT) (O : Heap) (tk : Nat) : ACalls Go.Proofs.Tryd.prog 87 [.agg [.int .i64 k1, .int .i64 n1, .str s1, .imm q1 4 f1 (cellss ks1)]] O tk (RetN O (.agg [.int .i64 4, .int .i64 0, .str ⟨#[]⟩, .imm tk 4 false (cellss [LT.mk k1 n1 s1 q1 f1 ks1])]) (tk + 1)) := by
 refine acalls_of_run Go.Proofs.Tryd.func87 rfl rfl [] [] (Bor.nil _) [(0, .agg [.int .i64 k1, .int .i64 n1, .str s1, .imm q1 4 f1 (cellss ks1)])] (.cons (.agg _) (.nil _)) (leb rfl) (fun _ h => by cases h) (fun S0 hO htk hfz => ?_)
 refine run_sr ?_
 refine run_op rfl (box_step (d := 1) rfl rfl rfl rfl rfl) rfl (ltb rfl) ?_
 refine run_op rfl (alloc_step (d := 2) hG rfl rfl rfl) rfl (ltb rfl) ?_
 refine run_ops_nil ?_
 refine run_sr ?_
 refine run_ld hG rfl rfl rfl rfl rfl (ltb rfl) ?_
 refine run_op rfl (buildSlice_step (d := 4) hG rfl rfl rfl rfl rfl (by rfl) (by rfl) (by rfl) (by decide)) rfl (ltb rfl) ?_
 refine run_pu rfl (build_step hG rfl (by rfl) rfl (fun h => by cases h) (by rfl)) rfl (ltb rfl) ?_
 refine run_op0 rfl (store_step hG rfl rfl rfl rfl rfl rfl rfl rfl) rfl ?_
 refine run_ops_nil ?_
 refine run_ret_to ?_
 refine fin_sub (Sub.freeze (k := 4) rfl rfl) ?_
 refine fin_x hG rfl rfl rfl (v' := .agg [.int .i64 4, .int .i64 0, .str ⟨#[]⟩, .imm tk 4 false (cellss [LT.mk k1 n1 s1 q1 f1 ks1])]) (by rfl) ⟨rfl, rfl, rfl⟩

def s_l00Src_pick (z1 : (List Int × Int × Int)) (l5 : List ByteArray) : Option (ByteArray × (List Int × Int × Int)) :=
 if ((l5).length : Int) = 0 then
  some (⟨#[]⟩, (z1.1, z1.2.1, z1.2.2))
 else
  (s_l00Src_next (z1.1, z1.2.1, z1.2.2) ((l5).length : Int)).bind fun r7 =>
  (idx l5 r7.1).bind fun y19 =>
  some (y19, (r7.2.1, r7.2.2.1, r7.2.2.2))

set_option maxRecDepth 100000 in
theorem s_l00Src_pick_ok : ∀ (X0 : ID) (q2 : Nat) (f2 : Bool) (l2 : List Int) (i3 : Int) (i4 : Int) (q5 : Nat) (f5 : Bool) (l5 : List ByteArray) {r : (ByteArray × (List Int × Int × Int))}, s_l00Src_pick (l2, i3, i4) l5 = some r → ∀ (O : Heap) (tk : Nat), O X0 = some ⟨99, 3, true, [[.imm q2 1 f2 ((l2 : List Int).map fun n => [AV.int .u8 n]), .int .i64 i3, .int .i64 i4]]⟩ → ACalls Go.Proofs.Tryd.prog 86 [.optr X0 0 0, .imm q5 1 f5 ((l5 : List ByteArray).map fun s => [AV.str s])] O tk (RetV O X0 tk (fun v o' tk' => ∃ r0', ∃ (c0q : Nat) (c0f : Bool) (c0 : List Int) (c1 : Int) (c2 : Int) , r = (r0', (c0, c1, c2)) ∧ o' = ⟨99, 3, true, [[.imm c0q 1 c0f ((c0 : List Int).map fun n => [AV.int .u8 n]), .int .i64 c1, .int .i64 c2]]⟩ ∧ v = .str r0')) := by
 intro X0 q2 f2 l2 i3 i4 q5 f5 l5 r hM O tk hX0
 unfold s_l00Src_pick at hM
 refine acalls_of_run Go.Proofs.Tryd.func86 rfl rfl [X0] [⟨99, 3, true, [[.imm q2 1 f2 ((l2 : List Int).map fun n => [AV.int .u8 n]), .int .i64 i3, .int .i64 i4]]⟩] (Bor.one hX0 rfl) [(0, .optr (.bor 0) 0 0), (1, .imm q5 1 f5 ((l5 : List ByteArray).map fun s => [AV.str s]))] (.cons (.bor 0 _ _ _ rfl) (.cons (entS rfl) (.nil _))) (leb rfl) (by intro y h; simp only [List.mem_cons, List.not_mem_nil, or_false] at h; rcases h with rfl <;> simp [tch, tch0]) (fun S0 hO htk hfz => ?_)
 refine run_sr ?_
 refine mvR rfl rfl rfl rfl (ltb rfl) ?_
 refine run_ops_nil ?_
 refine run_seq ?_
 refine run_sr ?_
 refine mvL rfl rfl rfl rfl (ltb rfl) ?_
 refine run_pu rfl (lenImm_step hG rfl rfl rfl rfl (slen _)) rfl (ltb rfl) ?_
 refine run_bin rfl rfl rfl rfl rfl rfl rfl (ltb rfl) ?_
 refine run_ops_nil ?_
 refine run_ifd rfl rfl (fun hb6 => ?_) (fun hb6 => ?_)
 ·replace hM := ite_t hb6 hM
  refine run_sr ?_
  refine mvR rfl rfl rfl rfl (ltb rfl) ?_
  refine run_ops_nil ?_
  refine run_ret_to ?_
  replace hM := some_t hM
  subst hM
  refine fin_x hG rfl rfl rfl (v' := .str ⟨#[]⟩) (by rfl) ⟨_, ⟨99, 3, true, [[.imm q2 1 f2 ((l2 : List Int).map fun n => [AV.int .u8 n]), .int .i64 i3, .int .i64 i4]]⟩, rfl, rfl, (show tk ≤ tk by omega), ⟨_, q2, f2, l2, i3, i4, rfl, rfl, rfl⟩⟩
 ·replace hM := ite_f hb6 hM
  refine run_skip ?_
  refine run_sr ?_
  refine mvL rfl rfl rfl rfl (ltb rfl) ?_
  refine mvL rfl rfl rfl rfl (ltb rfl) ?_
  refine mvL rfl rfl rfl rfl (ltb rfl) ?_
  refine run_pu rfl (lenImm_step hG rfl rfl rfl rfl (slen _)) rfl (ltb rfl) ?_
  obtain ⟨r7, hg8, hM⟩ := bind_t hM
  refine run_call rfl rfl rfl (ltb rfl) rfl rfl rfl (fun _ h => absurd h List.not_mem_nil) (s_l00Src_next_ok (.bor 0) q2 f2 l2 i3 i4 ((l5).length : Int) hg8 _ _ rfl) (callK_retV_bor (k := 0) rfl (fun v o' tk' h => by obtain ⟨_, _, _, _, _, _, rfl, rfl, _⟩ := h; rfl) (fun v o'18 tk9 (hle10 : tk ≤ tk9) h11 => ?_))
  obtain ⟨ra17, qc14, fc14, c14, c15, c16, rfl, rfl, rfl⟩ := h11
  obtain ⟨y19, hy20, hM⟩ := bind_t hM
  obtain ⟨hc22, hi23⟩ := sidx hy20
  refine run_pu rfl (indexImm_step hG rfl rfl rfl hi23 rfl rfl rfl rfl hc22) rfl (ltb rfl) ?_
  refine run_ld hG rfl rfl rfl rfl rfl (ltb rfl) ?_
  refine mvR rfl rfl rfl rfl (ltb rfl) ?_
  refine run_ops_nil ?_
  refine run_ret_to ?_
  replace hM := some_t hM
  subst hM
  refine fin_x hG rfl rfl rfl (v' := .str y19) (by rfl) ⟨_, ⟨99, 3, true, [[.imm qc14 1 fc14 ((c14 : List Int).map fun n => [AV.int .u8 n]), .int .i64 c15, .int .i64 c16]]⟩, rfl, rfl, (show tk ≤ tk9 by omega), ⟨_, qc14, fc14, c14, c15, c16, rfl, rfl, rfl⟩⟩

def s_l00Src_spine_L1 (rec_s_l00Src_rawTerm : (List Int × Int × Int) → Int → Option (T × (List Int × Int × Int))) (i5 : Int) : Nat → Int → List Int → Int → Int → List T → Option (List T × (List Int × Int × Int))
 | 0, _, _, _, _, _ => none
 | m + 1, i19, l20, i21, i22, l23 =>
  if i19 > 0 then
   (rec_s_l00Src_rawTerm (l20, i21, i22) (IntKind.i64.wrap (i5 - 1))).bind fun r25 =>
   chk ((l23).length + ([r25.1]).length ≤ 1099511627776) <|
   s_l00Src_spine_L1 rec_s_l00Src_rawTerm i5 m (IntKind.i64.wrap (i19 - 1)) r25.2.1 r25.2.2.1 r25.2.2.2 (l23 ++ [r25.1])
  else
   some (l23, (l20, i21, i22))

mutual

def s_l00Src_rawTerm : Nat → (List Int × Int × Int) → Int → Option (T × (List Int × Int × Int))
 | 0, _, _ => none
 | n + 1, z1, i5 =>
  if i5 ≤ 0 then
   (s_l00Src_chance (z1.1, z1.2.1, z1.2.2) 3).bind fun r7 =>
   if r7.1 = true then
    (s_l00Src_pick (r7.2.1, r7.2.2.1, r7.2.2.2) ([(⟨#[122]⟩ : ByteArray), (⟨#[99]⟩ : ByteArray), (⟨#[97]⟩ : ByteArray)])).bind fun r20 =>
    some ((T.mk 6 0 r20.1 []), (r20.2.1, r20.2.2.1, r20.2.2.2))
   else
    (s_l00Src_next (r7.2.1, r7.2.2.1, r7.2.2.2) 4).bind fun r32 =>
    some ((T.mk 5 r32.1 ⟨#[]⟩ []), (r32.2.1, r32.2.2.1, r32.2.2.2))
  else
   (s_l00Src_next (z1.1, z1.2.1, z1.2.2) 9).bind fun r44 =>
   jn (fun (b57 : Bool) =>
    if b57 = true then
     (s_l00Src_rawTerm n (r44.2.1, r44.2.2.1, r44.2.2.2) (IntKind.i64.wrap (i5 - 1))).bind fun r61 =>
     some ((T.mk 4 0 ⟨#[]⟩ [r61.1]), (r61.2.1, r61.2.2.1, r61.2.2.2))
    else
     jn (fun (b74 : Bool) =>
      if b74 = true then
       (s_l00Src_next (r44.2.1, r44.2.2.1, r44.2.2.2) 4).bind fun r78 =>
       (s_l00Src_spine n (r78.2.1, r78.2.2.1, r78.2.2.2) i5 2).bind fun r90 =>
       some ((T.mk 5 r78.1 ⟨#[]⟩ r90.1), (r90.2.1, r90.2.2.1, r90.2.2.2))
      else
       if r44.1 = 6 then
        (s_l00Src_next (r44.2.1, r44.2.2.1, r44.2.2.2) 3).bind fun r103 =>
        (s_l00Src_spine n (r103.2.1, r103.2.2.1, r103.2.2.2) i5 2).bind fun r115 =>
        some ((T.mk 7 r103.1 ⟨#[]⟩ r115.1), (r115.2.1, r115.2.2.1, r115.2.2.2))
       else
        (s_l00Src_pick (r44.2.1, r44.2.2.1, r44.2.2.2) ([(⟨#[115]⟩ : ByteArray), (⟨#[99]⟩ : ByteArray), (⟨#[122]⟩ : ByteArray)])).bind fun r127 =>
        (s_l00Src_spine n (r127.2.1, r127.2.2.1, r127.2.2.2) i5 2).bind fun r139 =>
        some ((T.mk 6 0 r127.1 r139.1), (r139.2.1, r139.2.2.1, r139.2.2.2))) fun j73 =>
     if r44.1 = 3 then
      j73 (r44.1 == 3)
     else
      if r44.1 = 4 then
       j73 (r44.1 == 4)
      else
       j73 (r44.1 == 5)) fun j56 =>
   if r44.1 = 0 then
    j56 (r44.1 == 0)
   else
    if r44.1 = 1 then
     j56 (r44.1 == 1)
    else
     j56 (r44.1 == 2)

def s_l00Src_spine : Nat → (List Int × Int × Int) → Int → Int → Option (List T × (List Int × Int × Int))
 | 0, _, _, _ => none
 | n + 1, z1, i5, i6 =>
  (s_l00Src_next (z1.1, z1.2.1, z1.2.2) (IntKind.i64.wrap (i6 + 1))).bind fun r7 =>
  s_l00Src_spine_L1 (s_l00Src_rawTerm n) i5 n r7.1 r7.2.1 r7.2.2.1 r7.2.2.2 ([])

end

end Go.Am.YtaedacibojpfkaaDoor
