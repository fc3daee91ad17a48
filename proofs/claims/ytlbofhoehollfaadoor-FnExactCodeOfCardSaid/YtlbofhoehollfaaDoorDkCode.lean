/- Printed by a program of ours: Lean functions that do what the Go functions do, and the contracts. -/
import Derived.Test.YtlbofhoehollfaaDoorMl0
import Derived.Test.YtlbofhoehollfaaDoorMl1
import Derived.Test.YtlbofhoehollfaaDoorMb1
import Derived.Test.YtlbofhoehollfaaDoorTypes
import Derived.Test.YtlbofhoehollfaaDoorMkA
-- packed
namespace Go.Am.YtlbofhoehollfaaDoor
open Go Go.Am

def i_codeWords : Option (List ByteArray) :=
 (g_Split (⟨#[111, 107, 32, 98, 97, 100, 32, 108, 111, 110, 103, 32, 102, 111, 114, 109, 32, 115, 121, 110, 116, 97, 120, 32, 110, 97, 109, 101, 32, 116, 119, 105, 99, 101, 32, 118, 97, 114, 32, 115, 112, 105, 110, 101, 32, 108, 97, 109, 32, 116, 121, 112, 101, 32, 98, 105, 103, 32, 116, 121, 112, 101, 100, 32, 112, 97, 116, 116, 101, 114, 110, 32, 99, 108, 97, 115, 104, 32, 104, 111, 108, 101, 32, 114, 97, 110, 103, 101, 32, 109, 97, 110, 121, 32, 110, 111, 110, 101, 32, 114, 117, 108, 101]⟩) (⟨#[32]⟩)).bind fun r1 =>
 some r1

set_option maxRecDepth 100000 in
theorem i_codeWords_ok : ∀ {r : (List ByteArray)}, i_codeWords = some r → ∀ (O : Heap) (tk : Nat), ACalls Go.Proofs.Tryd.prog 50 [] O tk (RetX O tk (fun v tk' => VSs r v)) := by
 intro r hM O tk
 unfold i_codeWords at hM
 refine acalls_of_run Go.Proofs.Tryd.func50 rfl rfl [] [] (Bor.nil _) [] (.nil _) (leb rfl) (fun _ h => by cases h) (fun S0 hO htk hfz => ?_)
 refine run_sr ?_
 refine mvR rfl rfl rfl rfl (ltb rfl) ?_
 refine run_ops_nil ?_
 refine run_sr ?_
 obtain ⟨r1, hg2, hM⟩ := bind_t hM
 refine run_call rfl rfl rfl (ltb rfl) rfl rfl rfl (fun _ h => absurd h List.not_mem_nil) (g_Split_ok ⟨#[111, 107, 32, 98, 97, 100, 32, 108, 111, 110, 103, 32, 102, 111, 114, 109, 32, 115, 121, 110, 116, 97, 120, 32, 110, 97, 109, 101, 32, 116, 119, 105, 99, 101, 32, 118, 97, 114, 32, 115, 112, 105, 110, 101, 32, 108, 97, 109, 32, 116, 121, 112, 101, 32, 98, 105, 103, 32, 116, 121, 112, 101, 100, 32, 112, 97, 116, 116, 101, 114, 110, 32, 99, 108, 97, 115, 104, 32, 104, 111, 108, 101, 32, 114, 97, 110, 103, 101, 32, 109, 97, 110, 121, 32, 110, 111, 110, 101, 32, 114, 117, 108, 101]⟩ ⟨#[32]⟩ hg2 _ _) (callK_retX (fun v tk3 (hle4 : tk ≤ tk3) h5 => ?_))
 obtain ⟨q6, f6, rfl⟩ := h5
 refine mvR rfl rfl rfl rfl (ltb rfl) ?_
 refine run_ops_nil ?_
 refine run_ret_to ?_
 obtain rfl := some_t hM
 refine fin_x hG rfl rfl rfl (v' := .imm q6 1 f6 ((r1 : List ByteArray).map fun s => [AV.str s])) (by rfl) ⟨rfl, (show tk ≤ tk3 by omega), _, rfl, ⟨q6, f6, rfl⟩⟩

def i_CodeWord (i1 : Int) : Option ByteArray :=
 (i_in i1 0 19).bind fun r2 =>
 if (!r2) = true then
  some (⟨#[]⟩)
 else
  (i_codeWords ).bind fun r10 =>
  (idx r10 i1).bind fun y17 =>
  some y17

set_option maxRecDepth 100000 in
theorem i_CodeWord_ok : ∀ (i1 : Int) {r : ByteArray}, i_CodeWord i1 = some r → ∀ (O : Heap) (tk : Nat), ACalls Go.Proofs.Tryd.prog 18 [.int .i64 i1] O tk (RetX O tk (fun v tk' => v = .str r)) := by
 intro i1 r hM O tk
 unfold i_CodeWord at hM
 refine acalls_of_run Go.Proofs.Tryd.func18 rfl rfl [] [] (Bor.nil _) [(0, .int .i64 i1)] (.cons (entS rfl) (.nil _)) (leb rfl) (fun _ h => by cases h) (fun S0 hO htk hfz => ?_)
 refine run_sr ?_
 refine mvR rfl rfl rfl rfl (ltb rfl) ?_
 refine run_ops_nil ?_
 refine run_seq ?_
 refine run_sr ?_
 refine mvL rfl rfl rfl rfl (ltb rfl) ?_
 obtain ⟨r2, hg3, hM⟩ := bind_t hM
 refine run_call rfl rfl rfl (ltb rfl) rfl rfl rfl (fun _ h => absurd h List.not_mem_nil) (i_in_ok i1 0 19 hg3 _ _) (callK_retX (fun v tk4 (hle5 : tk ≤ tk4) h6 => ?_))
 subst h6
 refine run_pu rfl (aun_step rfl rfl rfl) rfl (ltb rfl) ?_
 refine run_ops_nil ?_
 refine run_ifb rfl rfl (fun hb9 => ?_) (fun hb9 => ?_)
 ·replace hM := ite_t hb9 hM
  refine run_sr ?_
  refine mvR rfl rfl rfl rfl (ltb rfl) ?_
  refine run_ops_nil ?_
  refine run_ret_to ?_
  obtain rfl := some_t hM
  refine fin_x hG rfl rfl rfl (v' := .str ⟨#[]⟩) (by rfl) ⟨rfl, (show tk ≤ tk4 by omega), _, rfl, rfl⟩
 ·replace hM := ite_f hb9 hM
  refine run_skip ?_
  refine run_sr ?_
  obtain ⟨r10, hg11, hM⟩ := bind_t hM
  refine run_call rfl rfl rfl (ltb rfl) rfl rfl rfl (fun _ h => absurd h List.not_mem_nil) (i_codeWords_ok  hg11 _ _) (callK_retX (fun v tk12 (hle13 : tk4 ≤ tk12) h14 => ?_))
  obtain ⟨q15, f15, rfl⟩ := h14
  refine mvL rfl rfl rfl rfl (ltb rfl) ?_
  obtain ⟨y17, hy18, hM⟩ := bind_t hM
  obtain ⟨hc20, hi21⟩ := sidx hy18
  refine run_pu rfl (indexImm_step hG rfl rfl rfl hi21 rfl rfl rfl rfl hc20) rfl (ltb rfl) ?_
  refine run_ld hG rfl rfl rfl rfl rfl (ltb rfl) ?_
  refine mvR rfl rfl rfl rfl (ltb rfl) ?_
  refine run_ops_nil ?_
  refine run_ret_to ?_
  obtain rfl := some_t hM
  refine fin_x hG rfl rfl rfl (v' := .str y17) (by rfl) ⟨rfl, (show tk ≤ tk12 by omega), _, rfl, rfl⟩

def s_CodeWord (i1 : Int) : Option ByteArray :=
 if i1 < 0 then
  some (⟨#[]⟩)
 else
  if i1 ≥ (([(⟨#[111, 107]⟩ : ByteArray), (⟨#[98, 97, 100]⟩ : ByteArray), (⟨#[108, 111, 110, 103]⟩ : ByteArray), (⟨#[102, 111, 114, 109]⟩ : ByteArray), (⟨#[115, 121, 110, 116, 97, 120]⟩ : ByteArray), (⟨#[110, 97, 109, 101]⟩ : ByteArray), (⟨#[116, 119, 105, 99, 101]⟩ : ByteArray), (⟨#[118, 97, 114]⟩ : ByteArray), (⟨#[115, 112, 105, 110, 101]⟩ : ByteArray), (⟨#[108, 97, 109]⟩ : ByteArray), (⟨#[116, 121, 112, 101]⟩ : ByteArray), (⟨#[98, 105, 103]⟩ : ByteArray), (⟨#[116, 121, 112, 101, 100]⟩ : ByteArray), (⟨#[112, 97, 116, 116, 101, 114, 110]⟩ : ByteArray), (⟨#[99, 108, 97, 115, 104]⟩ : ByteArray), (⟨#[104, 111, 108, 101]⟩ : ByteArray), (⟨#[114, 97, 110, 103, 101]⟩ : ByteArray), (⟨#[109, 97, 110, 121]⟩ : ByteArray), (⟨#[110, 111, 110, 101]⟩ : ByteArray), (⟨#[114, 117, 108, 101]⟩ : ByteArray)]).length : Int) then
   some (⟨#[]⟩)
  else
   (idx ([(⟨#[111, 107]⟩ : ByteArray), (⟨#[98, 97, 100]⟩ : ByteArray), (⟨#[108, 111, 110, 103]⟩ : ByteArray), (⟨#[102, 111, 114, 109]⟩ : ByteArray), (⟨#[115, 121, 110, 116, 97, 120]⟩ : ByteArray), (⟨#[110, 97, 109, 101]⟩ : ByteArray), (⟨#[116, 119, 105, 99, 101]⟩ : ByteArray), (⟨#[118, 97, 114]⟩ : ByteArray), (⟨#[115, 112, 105, 110, 101]⟩ : ByteArray), (⟨#[108, 97, 109]⟩ : ByteArray), (⟨#[116, 121, 112, 101]⟩ : ByteArray), (⟨#[98, 105, 103]⟩ : ByteArray), (⟨#[116, 121, 112, 101, 100]⟩ : ByteArray), (⟨#[112, 97, 116, 116, 101, 114, 110]⟩ : ByteArray), (⟨#[99, 108, 97, 115, 104]⟩ : ByteArray), (⟨#[104, 111, 108, 101]⟩ : ByteArray), (⟨#[114, 97, 110, 103, 101]⟩ : ByteArray), (⟨#[109, 97, 110, 121]⟩ : ByteArray), (⟨#[110, 111, 110, 101]⟩ : ByteArray), (⟨#[114, 117, 108, 101]⟩ : ByteArray)]) i1).bind fun y4 =>
   some y4

set_option maxRecDepth 100000 in
theorem s_CodeWord_ok : ∀ (i1 : Int) {r : ByteArray}, s_CodeWord i1 = some r → ∀ (O : Heap) (tk : Nat), ACalls Go.Proofs.Tryd.prog 17 [.int .i64 i1] O tk (RetX O tk (fun v tk' => v = .str r)) := by
 intro i1 r hM O tk
 unfold s_CodeWord at hM
 refine acalls_of_run Go.Proofs.Tryd.func17 rfl rfl [] [] (Bor.nil _) [(0, .int .i64 i1)] (.cons (entS rfl) (.nil _)) (leb rfl) (fun _ h => by cases h) (fun S0 hO htk hfz => ?_)
 refine run_sr ?_
 refine mvR rfl rfl rfl rfl (ltb rfl) ?_
 refine run_ops_nil ?_
 refine run_sr ?_
 refine run_op rfl (buildSlice_step (d := 4) hG rfl rfl rfl rfl rfl (by rfl) (by rfl) (by rfl) (by decide)) rfl (ltb rfl) ?_
 refine mvR rfl rfl rfl rfl (ltb rfl) ?_
 refine run_ops_nil ?_
 refine run_seq ?_
 refine run_sr ?_
 refine mvL rfl rfl rfl rfl (ltb rfl) ?_
 refine run_bin rfl rfl rfl rfl rfl rfl rfl (ltb rfl) ?_
 refine mvL rfl rfl rfl rfl (ltb rfl) ?_
 refine run_splitd (i := 7) rfl (fun hb2 => ?_) (fun hb2 => ?_)
 ·replace hM := ite_t hb2 hM
  refine run_off (on_of rfl rfl rfl rfl) rfl (ltb rfl) ?_
  refine run_off (on_of rfl rfl rfl rfl) rfl (ltb rfl) ?_
  refine run_off (on_of rfl rfl rfl rfl) rfl (ltb rfl) ?_
  refine run_off (on_of rfl rfl rfl rfl) rfl (ltb rfl) ?_
  refine run_pu rfl (pick_step rfl rfl rfl) rfl (ltb rfl) ?_
  refine run_ops_nil ?_
  refine run_if rfl rfl (fun _ => ?_) (fun h => by cases h)
  refine run_sr ?_
  refine mvR rfl rfl rfl rfl (ltb rfl) ?_
  refine run_ops_nil ?_
  refine run_ret_to ?_
  obtain rfl := some_t hM
  refine fin_x hG rfl rfl rfl (v' := .str ⟨#[]⟩) (by rfl) ⟨rfl, (show tk ≤ tk by omega), _, rfl, rfl⟩
 ·replace hM := ite_f hb2 hM
  refine run_puG (on_of rfl rfl rfl rfl) (move_step (.inl rfl) rfl) rfl (ltb rfl) ?_
  refine run_puG (on_of rfl rfl rfl rfl) (move_step (.inl rfl) rfl) rfl (ltb rfl) ?_
  refine run_puG (on_of rfl rfl rfl rfl) (lenOsl_step hG rfl rfl rfl rfl rfl (slen ([(⟨#[111, 107]⟩ : ByteArray), (⟨#[98, 97, 100]⟩ : ByteArray), (⟨#[108, 111, 110, 103]⟩ : ByteArray), (⟨#[102, 111, 114, 109]⟩ : ByteArray), (⟨#[115, 121, 110, 116, 97, 120]⟩ : ByteArray), (⟨#[110, 97, 109, 101]⟩ : ByteArray), (⟨#[116, 119, 105, 99, 101]⟩ : ByteArray), (⟨#[118, 97, 114]⟩ : ByteArray), (⟨#[115, 112, 105, 110, 101]⟩ : ByteArray), (⟨#[108, 97, 109]⟩ : ByteArray), (⟨#[116, 121, 112, 101]⟩ : ByteArray), (⟨#[98, 105, 103]⟩ : ByteArray), (⟨#[116, 121, 112, 101, 100]⟩ : ByteArray), (⟨#[112, 97, 116, 116, 101, 114, 110]⟩ : ByteArray), (⟨#[99, 108, 97, 115, 104]⟩ : ByteArray), (⟨#[104, 111, 108, 101]⟩ : ByteArray), (⟨#[114, 97, 110, 103, 101]⟩ : ByteArray), (⟨#[109, 97, 110, 121]⟩ : ByteArray), (⟨#[110, 111, 110, 101]⟩ : ByteArray), (⟨#[114, 117, 108, 101]⟩ : ByteArray)]))) rfl (ltb rfl) ?_
  refine run_puG (on_of rfl rfl rfl rfl) (abin_step rfl rfl rfl rfl (fun _ h => by cases h)) rfl (ltb rfl) ?_
  refine run_pu rfl (pick_step rfl rfl rfl) rfl (ltb rfl) ?_
  refine run_ops_nil ?_
  refine run_ifd rfl rfl (fun hb3 => ?_) (fun hb3 => ?_)
  ·replace hM := ite_t hb3 hM
   refine run_sr ?_
   refine mvR rfl rfl rfl rfl (ltb rfl) ?_
   refine run_ops_nil ?_
   refine run_ret_to ?_
   obtain rfl := some_t hM
   refine fin_x hG rfl rfl rfl (v' := .str ⟨#[]⟩) (by rfl) ⟨rfl, (show tk ≤ tk by omega), _, rfl, rfl⟩
  ·replace hM := ite_f hb3 hM
   refine run_skip ?_
   refine run_sr ?_
   refine mvL rfl rfl rfl rfl (ltb rfl) ?_
   refine mvL rfl rfl rfl rfl (ltb rfl) ?_
   refine run_sub_ops (Sub.freeze (k := 4) rfl rfl) ?_
   obtain ⟨y4, hy5, hM⟩ := bind_t hM
   obtain ⟨hc7, hi8⟩ := sidx hy5
   refine run_pu rfl (indexImm_step hG rfl rfl rfl hi8 rfl rfl rfl rfl hc7) rfl (ltb rfl) ?_
   refine run_ld hG rfl rfl rfl rfl rfl (ltb rfl) ?_
   refine mvR rfl rfl rfl rfl (ltb rfl) ?_
   refine run_ops_nil ?_
   refine run_ret_to ?_
   obtain rfl := some_t hM
   refine fin_x hG rfl rfl rfl (v' := .str y4) (by rfl) ⟨rfl, (show tk ≤ (tk + 1) by omega), _, rfl, rfl⟩

def g_Index_X_L1 (l1 : List ByteArray) (t2 : ByteArray) : Nat → Int → Option Int
 | 0, _ => none
 | m + 1, i3 =>
  if i3 < ((l1).length : Int) then
   (idx l1 i3).bind fun y5 =>
   if (t2.toList == y5.toList) = true then
    some i3
   else
    g_Index_X_L1 l1 t2 m (IntKind.i64.wrap (i3 + 1))
  else
   some (-1)

def g_Index_X (n : Nat) (l1 : List ByteArray) (t2 : ByteArray) : Option Int :=
 g_Index_X_L1 l1 t2 n 0

set_option maxRecDepth 100000 in
theorem g_Index_X_ok (n : Nat) : ∀ (q1 : Nat) (f1 : Bool) (l1 : List ByteArray) (t2 : ByteArray) {r : Int}, g_Index_X n l1 t2 = some r → ∀ (O : Heap) (tk : Nat), ACalls Go.Proofs.Tryd.prog 51 [.imm q1 1 f1 ((l1 : List ByteArray).map fun s => [AV.str s]), .str t2] O tk (RetX O tk (fun v tk' => v = .int .i64 r)) := by
 intro q1 f1 l1 t2 r hM O tk
 unfold g_Index_X at hM
 refine acalls_of_run Go.Proofs.Tryd.func51 rfl rfl [] [] (Bor.nil _) [(0, .imm q1 1 f1 ((l1 : List ByteArray).map fun s => [AV.str s])), (1, .str t2)] (.cons (entS rfl) (.cons (entS rfl) (.nil _))) (leb rfl) (fun _ h => by cases h) (fun S0 hO htk hfz => ?_)
 refine run_sr ?_
 refine mvR rfl rfl rfl rfl (ltb rfl) ?_
 refine run_ops_nil ?_
 refine run_seq ?_
 refine run_sr ?_
 refine mvL rfl rfl rfl rfl (ltb rfl) ?_
 refine run_pu rfl (lenImm_step hG rfl rfl rfl rfl (slen _)) rfl (ltb rfl) ?_
 refine mvL rfl rfl rfl rfl (ltb rfl) ?_
 refine run_ops_nil ?_
 refine run_block ?_
 refine run_rounds (fun m σ => ∃ (i3 : Int) (tkg_Index_X_L1 : Nat), tk ≤ tkg_Index_X_L1 ∧ g_Index_X_L1 l1 t2 m i3 = some r ∧ σ = ⟨[(0, .imm q1 1 f1 ((l1 : List ByteArray).map fun s => [AV.str s])), (1, .str t2), (4, .int .i64 0), (7, .int .i64 ((l1).length : Int)), (8, .int .i64 i3)], [], [], O, tkg_Index_X_L1⟩) n (Sub.env [(0, .imm q1 1 f1 ((l1 : List ByteArray).map fun s => [AV.str s])), (1, .str t2), (4, .int .i64 0), (7, .int .i64 ((l1).length : Int)), (8, .int .i64 0)] ⟨rfl, rfl, rfl, rfl, rfl, trivial⟩) ⟨0, tk, Nat.le_refl _, hM, rfl⟩ (fun m σ hI => ?_)
 clear hM
 obtain ⟨i3, tkg_Index_X_L1, hle11, hM, rfl⟩ := hI
 obtain _ | m := m
 ·exact absurd hM (by rw [g_Index_X_L1]; exact fun h => by cases h)
 rw [g_Index_X_L1] at hM
 refine run_sr ?_
 refine run_bin rfl rfl rfl rfl rfl rfl rfl (ltb rfl) ?_
 refine run_ops_nil ?_
 refine run_seq ?_
 refine run_ifd rfl rfl (fun hb4 => ?_) (fun hb4 => ?_)
 ·replace hM := ite_t hb4 hM
  refine run_skip ?_
  refine run_seq ?_
  refine run_block ?_
  refine run_sr ?_
  refine mvL rfl rfl rfl rfl (ltb rfl) ?_
  refine mvR rfl rfl rfl rfl (ltb rfl) ?_
  refine run_ops_nil ?_
  refine run_sr ?_
  refine mvL rfl rfl rfl rfl (ltb rfl) ?_
  refine mvL rfl rfl rfl rfl (ltb rfl) ?_
  refine mvL rfl rfl rfl rfl (ltb rfl) ?_
  obtain ⟨y5, hy6, hM⟩ := bind_t hM
  obtain ⟨hc8, hi9⟩ := sidx hy6
  refine run_pu rfl (indexImm_step hG rfl rfl rfl hi9 rfl rfl rfl rfl hc8) rfl (ltb rfl) ?_
  refine run_ld hG rfl rfl rfl rfl rfl (ltb rfl) ?_
  refine run_bin rfl rfl rfl rfl rfl rfl rfl (ltb rfl) ?_
  refine run_ops_nil ?_
  refine run_ifb rfl rfl (fun hb10 => ?_) (fun hb10 => ?_)
  ·replace hM := ite_t hb10 hM
   refine run_sr ?_
   refine mvL rfl rfl rfl rfl (ltb rfl) ?_
   refine mvR rfl rfl rfl rfl (ltb rfl) ?_
   refine run_ops_nil ?_
   refine run_ret_to ?_
   obtain rfl := some_t hM
   refine fin_x hG rfl rfl rfl (v' := .int .i64 i3) (by rfl) ⟨rfl, (show tk ≤ tkg_Index_X_L1 by omega), _, rfl, rfl⟩
  ·replace hM := ite_f hb10 hM
   refine run_skip ?_
   refine run_blk ?_
   refine run_region ?_
   refine run_bin rfl rfl rfl rfl rfl rfl rfl (ltb rfl) ?_
   refine mvL rfl rfl rfl rfl (ltb rfl) ?_
   refine run_ops_nil ?_
   exact run_loop_end ⟨m, _, Nat.lt_succ_self _, ⟨(IntKind.i64.wrap (i3 + 1)), tkg_Index_X_L1, (show tk ≤ tkg_Index_X_L1 by omega), hM, rfl⟩, Sub.env [(0, .imm q1 1 f1 ((l1 : List ByteArray).map fun s => [AV.str s])), (1, .str t2), (4, .int .i64 0), (7, .int .i64 ((l1).length : Int)), (8, .int .i64 (IntKind.i64.wrap (i3 + 1)))] ⟨rfl, rfl, rfl, rfl, rfl, trivial⟩⟩
 ·replace hM := ite_f hb4 hM
  refine run_exit_to rfl ?_
  refine run_sr ?_
  refine mvR rfl rfl rfl rfl (ltb rfl) ?_
  refine run_ops_nil ?_
  refine run_ret_to ?_
  obtain rfl := some_t hM
  refine fin_x hG rfl rfl rfl (v' := .int .i64 (-1)) (by rfl) ⟨rfl, (show tk ≤ tkg_Index_X_L1 by omega), _, rfl, rfl⟩

def i_CodeOf (n : Nat) (t1 : ByteArray) : Option Int :=
 (i_codeWords ).bind fun r2 =>
 (g_Index_X n r2 t1).bind fun r9 =>
 some r9

set_option maxRecDepth 100000 in
theorem i_CodeOf_ok (n : Nat) : ∀ (t1 : ByteArray) {r : Int}, i_CodeOf n t1 = some r → ∀ (O : Heap) (tk : Nat), ACalls Go.Proofs.Tryd.prog 20 [.str t1] O tk (RetX O tk (fun v tk' => v = .int .i64 r)) := by
 intro t1 r hM O tk
 unfold i_CodeOf at hM
 refine acalls_of_run Go.Proofs.Tryd.func20 rfl rfl [] [] (Bor.nil _) [(0, .str t1)] (.cons (entS rfl) (.nil _)) (leb rfl) (fun _ h => by cases h) (fun S0 hO htk hfz => ?_)
 refine run_sr ?_
 refine mvR rfl rfl rfl rfl (ltb rfl) ?_
 refine run_ops_nil ?_
 refine run_sr ?_
 obtain ⟨r2, hg3, hM⟩ := bind_t hM
 refine run_call rfl rfl rfl (ltb rfl) rfl rfl rfl (fun _ h => absurd h List.not_mem_nil) (i_codeWords_ok  hg3 _ _) (callK_retX (fun v tk4 (hle5 : tk ≤ tk4) h6 => ?_))
 obtain ⟨q7, f7, rfl⟩ := h6
 refine mvL rfl rfl rfl rfl (ltb rfl) ?_
 obtain ⟨r9, hg10, hM⟩ := bind_t hM
 refine run_call rfl rfl rfl (ltb rfl) rfl rfl rfl (fun _ h => absurd h List.not_mem_nil) (g_Index_X_ok n q7 f7 r2 t1 hg10 _ _) (callK_retX (fun v tk11 (hle12 : tk4 ≤ tk11) h13 => ?_))
 subst h13
 refine mvR rfl rfl rfl rfl (ltb rfl) ?_
 refine run_ops_nil ?_
 refine run_ret_to ?_
 obtain rfl := some_t hM
 refine fin_x hG rfl rfl rfl (v' := .int .i64 r9) (by rfl) ⟨rfl, (show tk ≤ tk11 by omega), _, rfl, rfl⟩

def s_CodeOf_L1 (t1 : ByteArray) : Nat → Int → Option Int
 | 0, _ => none
 | m + 1, i2 =>
  if i2 ≤ 19 then
   (s_CodeWord i2).bind fun r4 =>
   if (r4.toList == t1.toList) = true then
    some i2
   else
    s_CodeOf_L1 t1 m (IntKind.i64.wrap (i2 + 1))
  else
   some (-1)

def s_CodeOf (n : Nat) (t1 : ByteArray) : Option Int :=
 s_CodeOf_L1 t1 n 0

set_option maxRecDepth 100000 in
theorem s_CodeOf_ok (n : Nat) : ∀ (t1 : ByteArray) {r : Int}, s_CodeOf n t1 = some r → ∀ (O : Heap) (tk : Nat), ACalls Go.Proofs.Tryd.prog 19 [.str t1] O tk (RetX O tk (fun v tk' => v = .int .i64 r)) := by
 intro t1 r hM O tk
 unfold s_CodeOf at hM
 refine acalls_of_run Go.Proofs.Tryd.func19 rfl rfl [] [] (Bor.nil _) [(0, .str t1)] (.cons (entS rfl) (.nil _)) (leb rfl) (fun _ h => by cases h) (fun S0 hO htk hfz => ?_)
 refine run_sr ?_
 refine mvR rfl rfl rfl rfl (ltb rfl) ?_
 refine run_ops_nil ?_
 refine run_seq ?_
 refine run_sr ?_
 refine mvR rfl rfl rfl rfl (ltb rfl) ?_
 refine run_ops_nil ?_
 refine run_block ?_
 refine run_rounds (fun m σ => ∃ (i2 : Int) (tks_CodeOf_L1 : Nat), tk ≤ tks_CodeOf_L1 ∧ s_CodeOf_L1 t1 m i2 = some r ∧ σ = ⟨[(0, .str t1), (2, .int .i64 0), (3, .int .i64 i2)], [], [], O, tks_CodeOf_L1⟩) n (Sub.env [(0, .str t1), (2, .int .i64 0), (3, .int .i64 0)] ⟨rfl, rfl, rfl, trivial⟩) ⟨0, tk, Nat.le_refl _, hM, rfl⟩ (fun m σ hI => ?_)
 clear hM
 obtain ⟨i2, tks_CodeOf_L1, hle12, hM, rfl⟩ := hI
 obtain _ | m := m
 ·exact absurd hM (by rw [s_CodeOf_L1]; exact fun h => by cases h)
 rw [s_CodeOf_L1] at hM
 refine run_seq ?_
 refine run_sr ?_
 refine mvL rfl rfl rfl rfl (ltb rfl) ?_
 refine run_bin rfl rfl rfl rfl rfl rfl rfl (ltb rfl) ?_
 refine run_ops_nil ?_
 refine run_ifd rfl rfl (fun hb3 => ?_) (fun hb3 => ?_)
 ·replace hM := ite_t hb3 hM
  refine run_skip ?_
  refine run_seq ?_
  refine run_block ?_
  refine run_sr ?_
  refine mvL rfl rfl rfl rfl (ltb rfl) ?_
  obtain ⟨r4, hg5, hM⟩ := bind_t hM
  refine run_call rfl rfl rfl (ltb rfl) rfl rfl rfl (fun _ h => absurd h List.not_mem_nil) (s_CodeWord_ok i2 hg5 _ _) (callK_retX (fun v tk6 (hle7 : tks_CodeOf_L1 ≤ tk6) h8 => ?_))
  subst h8
  refine mvL rfl rfl rfl rfl (ltb rfl) ?_
  refine run_bin rfl rfl rfl rfl rfl rfl rfl (ltb rfl) ?_
  refine run_ops_nil ?_
  refine run_ifb rfl rfl (fun hb11 => ?_) (fun hb11 => ?_)
  ·replace hM := ite_t hb11 hM
   refine run_sr ?_
   refine mvL rfl rfl rfl rfl (ltb rfl) ?_
   refine mvR rfl rfl rfl rfl (ltb rfl) ?_
   refine run_ops_nil ?_
   refine run_ret_to ?_
   obtain rfl := some_t hM
   refine fin_x hG rfl rfl rfl (v' := .int .i64 i2) (by rfl) ⟨rfl, (show tk ≤ tk6 by omega), _, rfl, rfl⟩
  ·replace hM := ite_f hb11 hM
   refine run_skip ?_
   refine run_blk ?_
   refine run_region ?_
   refine mvL rfl rfl rfl rfl (ltb rfl) ?_
   refine run_bin rfl rfl rfl rfl rfl rfl rfl (ltb rfl) ?_
   refine mvR rfl rfl rfl rfl (ltb rfl) ?_
   refine run_ops_nil ?_
   exact run_loop_end ⟨m, _, Nat.lt_succ_self _, ⟨(IntKind.i64.wrap (i2 + 1)), tk6, (show tk ≤ tk6 by omega), hM, rfl⟩, Sub.env [(0, .str t1), (2, .int .i64 0), (3, .int .i64 (IntKind.i64.wrap (i2 + 1)))] ⟨rfl, rfl, rfl, trivial⟩⟩
 ·replace hM := ite_f hb3 hM
  refine run_exit_to rfl ?_
  refine run_sr ?_
  refine mvR rfl rfl rfl rfl (ltb rfl) ?_
  refine run_ops_nil ?_
  refine run_ret_to ?_
  obtain rfl := some_t hM
  refine fin_x hG rfl rfl rfl (v' := .int .i64 (-1)) (by rfl) ⟨rfl, (show tk ≤ tks_CodeOf_L1 by omega), _, rfl, rfl⟩

end Go.Am.YtlbofhoehollfaaDoor
