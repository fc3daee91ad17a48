/- Printed by a program of ours: Lean functions that do what the Go functions do, and the contracts. -/
import Derived.Test.YtoajlhhalpldfaaGreatDoorMl0
import Derived.Test.YtoajlhhalpldfaaGreatDoorTypes
import Derived.Test.YtoajlhhalpldfaaGreatDoorMkA
import Derived.Test.YtoajlhhalpldfaaGreatDoorMz
-- packed
namespace Go.Am.YtoajlhhalpldfaaGreatDoor
open Go Go.Am

def i_over (t1 : ByteArray) (t2 : ByteArray) : Option Bool :=
 (g_Trim t1 t2).bind fun r3 =>
 some (r3.toList == (⟨#[]⟩ : ByteArray).toList)

set_option maxRecDepth 100000 in
theorem i_over_ok : ∀ (t1 : ByteArray) (t2 : ByteArray) {r : Bool}, i_over t1 t2 = some r → ∀ (O : Heap) (tk : Nat), ACalls Go.Proofs.Tryz.prog 112 [.str t1, .str t2] O tk (RetX O tk (fun v tk' => v = .bool r)) := by
 intro t1 t2 r hM O tk
 unfold i_over at hM
 refine acalls_of_run Go.Proofs.Tryz.func112 rfl rfl [] [] (Bor.nil _) [(0, .str t1), (1, .str t2)] (.cons (entS rfl) (.cons (entS rfl) (.nil _))) (leb rfl) (fun _ h => by cases h) (fun S0 hO htk hfz => ?_)
 refine run_sr ?_
 refine yR rfl ?_
 refine yN ?_
 refine run_sr ?_
 refine yL rfl ?_
 refine yL rfl ?_
 obtain ⟨r3, hg4, hM⟩ := bind_t hM
 refine yK rfl (g_Trim_ok t1 t2 hg4 _ _) (callK_retX (fun v tk5 (hle6 : tk ≤ tk5) h7 => ?_))
 subst h7
 refine yB rfl ?_
 refine yR rfl ?_
 refine yN ?_
 refine run_ret_to ?_
 replace hM := some_t hM
 subst hM
 refine fin_x hG rfl rfl rfl (v' := .bool (r3.toList == (⟨#[]⟩ : ByteArray).toList)) (by rfl) ⟨rfl, (show tk ≤ tk5 by omega), _, rfl, rfl⟩

def i_isHead (i1 : Int) : Option Bool :=
 (g_IndexByte (⟨#[97, 98, 99, 100, 101, 102, 103, 104, 105, 106, 107, 108, 109, 110, 111, 112, 113, 114, 115, 116, 117, 118, 119, 120, 121, 122, 65, 66, 67, 68, 69, 70, 71, 72, 73, 74, 75, 76, 77, 78, 79, 80, 81, 82, 83, 84, 85, 86, 87, 88, 89, 90, 95]⟩) i1).bind fun r2 =>
 some (decide (r2 ≥ 0))

set_option maxRecDepth 100000 in
theorem i_isHead_ok : ∀ (i1 : Int) {r : Bool}, i_isHead i1 = some r → ∀ (O : Heap) (tk : Nat), ACalls Go.Proofs.Tryz.prog 116 [.int .u8 i1] O tk (RetX O tk (fun v tk' => v = .bool r)) := by
 intro i1 r hM O tk
 unfold i_isHead at hM
 refine acalls_of_run Go.Proofs.Tryz.func116 rfl rfl [] [] (Bor.nil _) [(0, .int .u8 i1)] (.cons (entS rfl) (.nil _)) (leb rfl) (fun _ h => by cases h) (fun S0 hO htk hfz => ?_)
 refine run_sr ?_
 refine yR rfl ?_
 refine yN ?_
 refine run_sr ?_
 refine yL rfl ?_
 obtain ⟨r2, hg3, hM⟩ := bind_t hM
 refine yK rfl (g_IndexByte_ok ⟨#[97, 98, 99, 100, 101, 102, 103, 104, 105, 106, 107, 108, 109, 110, 111, 112, 113, 114, 115, 116, 117, 118, 119, 120, 121, 122, 65, 66, 67, 68, 69, 70, 71, 72, 73, 74, 75, 76, 77, 78, 79, 80, 81, 82, 83, 84, 85, 86, 87, 88, 89, 90, 95]⟩ i1 hg3 _ _) (callK_retX (fun v tk4 (hle5 : tk ≤ tk4) h6 => ?_))
 subst h6
 refine yB rfl ?_
 refine yR rfl ?_
 refine yN ?_
 refine run_ret_to ?_
 replace hM := some_t hM
 subst hM
 refine fin_x hG rfl rfl rfl (v' := .bool (decide (r2 ≥ 0))) (by rfl) ⟨rfl, (show tk ≤ tk4 by omega), _, rfl, rfl⟩

def i_wordOK (t1 : ByteArray) : Option Bool :=
 (i_in (t1.size : Int) 1 40).bind fun r2 =>
 if r2 = true then
  (byteAt t1 0).bind fun y10 =>
  (i_isHead y10).bind fun r12 =>
  if r12 = true then
   (i_over t1 (⟨#[97, 98, 99, 100, 101, 102, 103, 104, 105, 106, 107, 108, 109, 110, 111, 112, 113, 114, 115, 116, 117, 118, 119, 120, 121, 122, 65, 66, 67, 68, 69, 70, 71, 72, 73, 74, 75, 76, 77, 78, 79, 80, 81, 82, 83, 84, 85, 86, 87, 88, 89, 90, 95, 48, 49, 50, 51, 52, 53, 54, 55, 56, 57]⟩)).bind fun r20 =>
   some r20
  else
   some false
 else
  some false

set_option maxRecDepth 100000 in
theorem i_wordOK_ok : ∀ (t1 : ByteArray) {r : Bool}, i_wordOK t1 = some r → ∀ (O : Heap) (tk : Nat), ACalls Go.Proofs.Tryz.prog 110 [.str t1] O tk (RetX O tk (fun v tk' => v = .bool r)) := by
 intro t1 r hM O tk
 unfold i_wordOK at hM
 refine acalls_of_run Go.Proofs.Tryz.func110 rfl rfl [] [] (Bor.nil _) [(0, .str t1)] (.cons (entS rfl) (.nil _)) (leb rfl) (fun _ h => by cases h) (fun S0 hO htk hfz => ?_)
 refine run_sr ?_
 refine yR rfl ?_
 refine yN ?_
 refine run_sr ?_
 refine yL rfl ?_
 refine run_pu rfl (len_step hG rfl rfl rfl rfl) rfl (ltb rfl) ?_
 obtain ⟨r2, hg3, hM⟩ := bind_t hM
 refine yK rfl (i_in_ok (t1.size : Int) 1 40 hg3 _ _) (callK_retX (fun v tk4 (hle5 : tk ≤ tk4) h6 => ?_))
 subst h6
 refine yL rfl ?_
 refine run_splitb (i := 6) rfl (fun hb9 => ?_) (fun hb9 => ?_)
 ·replace hM := ite_t hb9 hM
  refine run_puG (on_of rfl rfl rfl rfl) (move_step (.inl rfl) rfl) rfl (ltb rfl) ?_
  obtain ⟨y10, hy11, hM⟩ := bind_t hM
  refine run_puG (on_of rfl rfl rfl rfl) (strIndex_step hG rfl rfl rfl rfl rfl hy11) rfl (ltb rfl) ?_
  obtain ⟨r12, hg13, hM⟩ := bind_t hM
  refine yG (on_of rfl rfl rfl rfl) rfl (i_isHead_ok y10 hg13 _ _) (callK_retX (fun v tk14 (hle15 : tk4 ≤ tk14) h16 => ?_))
  subst h16
  refine yP rfl ?_
  refine yL rfl ?_
  refine run_splitb (i := 11) rfl (fun hb19 => ?_) (fun hb19 => ?_)
  ·replace hM := ite_t hb19 hM
   refine run_puG (on_of rfl rfl rfl rfl) (move_step (.inl rfl) rfl) rfl (ltb rfl) ?_
   obtain ⟨r20, hg21, hM⟩ := bind_t hM
   refine yG (on_of rfl rfl rfl rfl) rfl (i_over_ok t1 ⟨#[97, 98, 99, 100, 101, 102, 103, 104, 105, 106, 107, 108, 109, 110, 111, 112, 113, 114, 115, 116, 117, 118, 119, 120, 121, 122, 65, 66, 67, 68, 69, 70, 71, 72, 73, 74, 75, 76, 77, 78, 79, 80, 81, 82, 83, 84, 85, 86, 87, 88, 89, 90, 95, 48, 49, 50, 51, 52, 53, 54, 55, 56, 57]⟩ hg21 _ _) (callK_retX (fun v tk22 (hle23 : tk14 ≤ tk22) h24 => ?_))
   subst h24
   refine yP rfl ?_
   refine yR rfl ?_
   refine yN ?_
   refine run_ret_to ?_
   replace hM := some_t hM
   subst hM
   refine fin_x hG rfl rfl rfl (v' := .bool r20) (by rfl) ⟨rfl, (show tk ≤ tk22 by omega), _, rfl, rfl⟩
  replace hM := ite_f hb19 hM
  refine yO rfl ?_
  refine yO rfl ?_
  refine yP rfl ?_
  refine yR rfl ?_
  refine yN ?_
  refine run_ret_to ?_
  replace hM := some_t hM
  subst hM
  refine fin_x hG rfl rfl rfl (v' := .bool false) (by rfl) ⟨rfl, (show tk ≤ tk14 by omega), _, rfl, rfl⟩
 replace hM := ite_f hb9 hM
 refine yO rfl ?_
 refine yO rfl ?_
 refine yO rfl ?_
 refine yP rfl ?_
 refine yL rfl ?_
 refine yO rfl ?_
 refine yO rfl ?_
 refine yP rfl ?_
 refine yR rfl ?_
 refine yN ?_
 refine run_ret_to ?_
 replace hM := some_t hM
 subst hM
 refine fin_x hG rfl rfl rfl (v' := .bool false) (by rfl) ⟨rfl, (show tk ≤ tk4 by omega), _, rfl, rfl⟩

def sl_HasPrefix (t1 : ByteArray) (t2 : ByteArray) : Option Bool :=
 if (t1.size : Int) ≥ (t2.size : Int) then
  (strSub t1 0 (t2.size : Int)).bind fun y4 =>
  some (y4.toList == t2.toList)
 else
  some false

set_option maxRecDepth 100000 in
theorem sl_HasPrefix_ok : ∀ (t1 : ByteArray) (t2 : ByteArray) {r : Bool}, sl_HasPrefix t1 t2 = some r → ∀ (O : Heap) (tk : Nat), ACalls Go.Proofs.Tryz.prog 121 [.str t1, .str t2] O tk (RetX O tk (fun v tk' => v = .bool r)) := by
 intro t1 t2 r hM O tk
 unfold sl_HasPrefix at hM
 refine acalls_of_run Go.Proofs.Tryz.func121 rfl rfl [] [] (Bor.nil _) [(0, .str t1), (1, .str t2)] (.cons (entS rfl) (.cons (entS rfl) (.nil _))) (leb rfl) (fun _ h => by cases h) (fun S0 hO htk hfz => ?_)
 refine run_sr ?_
 refine yR rfl ?_
 refine yN ?_
 refine run_sr ?_
 refine yL rfl ?_
 refine run_pu rfl (len_step hG rfl rfl rfl rfl) rfl (ltb rfl) ?_
 refine yL rfl ?_
 refine run_pu rfl (len_step hG rfl rfl rfl rfl) rfl (ltb rfl) ?_
 refine yB rfl ?_
 refine yL rfl ?_
 refine run_splitd (i := 10) rfl (fun hb3 => ?_) (fun hb3 => ?_)
 ·replace hM := ite_t hb3 hM
  refine run_puG (on_of rfl rfl rfl rfl) (move_step (.inl rfl) rfl) rfl (ltb rfl) ?_
  refine run_puG (on_of rfl rfl rfl rfl) (move_step (.inl rfl) rfl) rfl (ltb rfl) ?_
  refine run_puG (on_of rfl rfl rfl rfl) (len_step hG rfl rfl rfl rfl) rfl (ltb rfl) ?_
  obtain ⟨y4, hy5, hM⟩ := bind_t hM
  refine run_puG (on_of rfl rfl rfl rfl) (strHi_step hG rfl rfl rfl rfl rfl hy5) rfl (ltb rfl) ?_
  refine run_puG (on_of rfl rfl rfl rfl) (move_step (.inl rfl) rfl) rfl (ltb rfl) ?_
  refine run_puG (on_of rfl rfl rfl rfl) (abin_step rfl rfl rfl rfl (fun _ h => by cases h)) rfl (ltb rfl) ?_
  refine yP rfl ?_
  refine yR rfl ?_
  refine yN ?_
  refine run_ret_to ?_
  replace hM := some_t hM
  subst hM
  refine fin_x hG rfl rfl rfl (v' := .bool (y4.toList == t2.toList)) (by rfl) ⟨rfl, (show tk ≤ tk by omega), _, rfl, rfl⟩
 replace hM := ite_f hb3 hM
 refine yO rfl ?_
 refine yO rfl ?_
 refine yO rfl ?_
 refine yO rfl ?_
 refine yO rfl ?_
 refine yO rfl ?_
 refine yP rfl ?_
 refine yR rfl ?_
 refine yN ?_
 refine run_ret_to ?_
 replace hM := some_t hM
 subst hM
 refine fin_x hG rfl rfl rfl (v' := .bool false) (by rfl) ⟨rfl, (show tk ≤ tk by omega), _, rfl, rfl⟩

def sl_CutPrefix (t1 : ByteArray) (t2 : ByteArray) : Option (ByteArray × Bool) :=
 (sl_HasPrefix t1 t2).bind fun r3 =>
 if (!r3) = true then
  some (t1, false)
 else
  (strSub t1 (t2.size : Int) (t1.size : Int)).bind fun y11 =>
  some (y11, true)

set_option maxRecDepth 100000 in
theorem sl_CutPrefix_ok : ∀ (t1 : ByteArray) (t2 : ByteArray) {r : (ByteArray × Bool)}, sl_CutPrefix t1 t2 = some r → ∀ (O : Heap) (tk : Nat), ACalls Go.Proofs.Tryz.prog 117 [.str t1, .str t2] O tk (RetX O tk (fun v tk' => ∃ r0' r1' v0' v1', r = (r0', r1') ∧ v = .tup [v0', v1'] ∧ v0' = .str r0' ∧ v1' = .bool r1')) := by
 intro t1 t2 r hM O tk
 unfold sl_CutPrefix at hM
 refine acalls_of_run Go.Proofs.Tryz.func117 rfl rfl [] [] (Bor.nil _) [(0, .str t1), (1, .str t2)] (.cons (entS rfl) (.cons (entS rfl) (.nil _))) (leb rfl) (fun _ h => by cases h) (fun S0 hO htk hfz => ?_)
 refine run_sr ?_
 refine yR rfl ?_
 refine yR rfl ?_
 refine yN ?_
 refine run_seq ?_
 refine run_sr ?_
 refine yL rfl ?_
 refine yL rfl ?_
 obtain ⟨r3, hg4, hM⟩ := bind_t hM
 refine yK rfl (sl_HasPrefix_ok t1 t2 hg4 _ _) (callK_retX (fun v tk5 (hle6 : tk ≤ tk5) h7 => ?_))
 subst h7
 refine run_pu rfl (aun_step rfl rfl rfl) rfl (ltb rfl) ?_
 refine yN ?_
 refine run_ifb rfl rfl (fun hb10 => ?_) (fun hb10 => ?_)
 ·replace hM := ite_t hb10 hM
  refine run_sr ?_
  refine yL rfl ?_
  refine yR rfl ?_
  refine yR rfl ?_
  refine yN ?_
  refine run_ret_to ?_
  replace hM := some_t hM
  subst hM
  refine fin_x hG rfl rfl rfl (v' := .tup [.str t1, .bool false]) (by rfl) ⟨rfl, (show tk ≤ tk5 by omega), _, rfl, ⟨_, _, _, _, rfl, rfl, rfl, rfl⟩⟩
 replace hM := ite_f hb10 hM
 refine run_skip ?_
 refine run_sr ?_
 refine yL rfl ?_
 refine yL rfl ?_
 refine run_pu rfl (len_step hG rfl rfl rfl rfl) rfl (ltb rfl) ?_
 obtain ⟨y11, hy12, hM⟩ := bind_t hM
 refine run_pu rfl (strLo_step hG rfl rfl rfl rfl rfl hy12) rfl (ltb rfl) ?_
 refine yR rfl ?_
 refine yR rfl ?_
 refine yN ?_
 refine run_ret_to ?_
 replace hM := some_t hM
 subst hM
 refine fin_x hG rfl rfl rfl (v' := .tup [.str y11, .bool true]) (by rfl) ⟨rfl, (show tk ≤ tk5 by omega), _, rfl, ⟨_, _, _, _, rfl, rfl, rfl, rfl⟩⟩

def str_CutPrefix (t1 : ByteArray) (t2 : ByteArray) : Option (ByteArray × Bool) :=
 (sl_CutPrefix t1 t2).bind fun r3 =>
 some (r3.1, r3.2)

set_option maxRecDepth 100000 in
theorem str_CutPrefix_ok : ∀ (t1 : ByteArray) (t2 : ByteArray) {r : (ByteArray × Bool)}, str_CutPrefix t1 t2 = some r → ∀ (O : Heap) (tk : Nat), ACalls Go.Proofs.Tryz.prog 111 [.str t1, .str t2] O tk (RetX O tk (fun v tk' => ∃ r0' r1' v0' v1', r = (r0', r1') ∧ v = .tup [v0', v1'] ∧ v0' = .str r0' ∧ v1' = .bool r1')) := by
 intro t1 t2 r hM O tk
 unfold str_CutPrefix at hM
 refine acalls_of_run Go.Proofs.Tryz.func111 rfl rfl [] [] (Bor.nil _) [(0, .str t1), (1, .str t2)] (.cons (entS rfl) (.cons (entS rfl) (.nil _))) (leb rfl) (fun _ h => by cases h) (fun S0 hO htk hfz => ?_)
 refine run_sr ?_
 refine yR rfl ?_
 refine yR rfl ?_
 refine yN ?_
 refine run_sr ?_
 refine yL rfl ?_
 refine yL rfl ?_
 obtain ⟨r3, hg4, hM⟩ := bind_t hM
 refine yK rfl (sl_CutPrefix_ok t1 t2 hg4 _ _) (callK_retX (fun v tk5 (hle6 : tk ≤ tk5) h7 => ?_))
 obtain ⟨ra12, ra13, va14, va15, rfl, rfl, rfl, rfl⟩ := h7
 refine run_pu rfl (extract_step rfl rfl rfl) rfl (ltb rfl) ?_
 refine run_pu rfl (extract_step rfl rfl rfl) rfl (ltb rfl) ?_
 refine yR rfl ?_
 refine yR rfl ?_
 refine yN ?_
 refine run_ret_to ?_
 replace hM := some_t hM
 subst hM
 refine fin_x hG rfl rfl rfl (v' := .tup [.str ra12, .bool ra13]) (by rfl) ⟨rfl, (show tk ≤ tk5 by omega), _, rfl, ⟨_, _, _, _, rfl, rfl, rfl, rfl⟩⟩

def i_NameOK (t1 : ByteArray) : Option Bool :=
 (i_wordOK t1).bind fun r2 =>
 if (!r2) = true then
  some false
 else
  if (t1.toList == (⟨#[116, 121, 112, 101]⟩ : ByteArray).toList) = true then
   some false
  else
   if (t1.toList == (⟨#[95]⟩ : ByteArray).toList) = true then
    some false
   else
    (str_CutPrefix t1 (⟨#[120]⟩)).bind fun r12 =>
    if (!r12.2) = true then
     some true
    else
     if (r12.1.toList == (⟨#[]⟩ : ByteArray).toList) = true then
      some true
     else
      (i_over r12.1 (⟨#[48, 49, 50, 51, 52, 53, 54, 55, 56, 57]⟩)).bind fun r27 =>
      some (!r27)

set_option maxRecDepth 100000 in
theorem i_NameOK_ok : ∀ (t1 : ByteArray) {r : Bool}, i_NameOK t1 = some r → ∀ (O : Heap) (tk : Nat), ACalls Go.Proofs.Tryz.prog 94 [.str t1] O tk (RetX O tk (fun v tk' => v = .bool r)) := by
 intro t1 r hM O tk
 unfold i_NameOK at hM
 refine acalls_of_run Go.Proofs.Tryz.func94 rfl rfl [] [] (Bor.nil _) [(0, .str t1)] (.cons (entS rfl) (.nil _)) (leb rfl) (fun _ h => by cases h) (fun S0 hO htk hfz => ?_)
 refine run_sr ?_
 refine yR rfl ?_
 refine yN ?_
 refine run_seq ?_
 refine run_sr ?_
 refine yL rfl ?_
 obtain ⟨r2, hg3, hM⟩ := bind_t hM
 refine yK rfl (i_wordOK_ok t1 hg3 _ _) (callK_retX (fun v tk4 (hle5 : tk ≤ tk4) h6 => ?_))
 subst h6
 refine run_pu rfl (aun_step rfl rfl rfl) rfl (ltb rfl) ?_
 refine yL rfl ?_
 refine run_splitb (i := 8) rfl (fun hb9 => ?_) (fun hb9 => ?_)
 ·replace hM := ite_t hb9 hM
  refine yO rfl ?_
  refine yO rfl ?_
  refine yP rfl ?_
  refine yL rfl ?_
  refine yO rfl ?_
  refine yO rfl ?_
  refine yP rfl ?_
  refine yN ?_
  refine run_if rfl rfl (fun _ => ?_) (fun h => by cases h)
  refine run_sr ?_
  refine yR rfl ?_
  refine yN ?_
  refine run_ret_to ?_
  replace hM := some_t hM
  subst hM
  refine fin_x hG rfl rfl rfl (v' := .bool false) (by rfl) ⟨rfl, (show tk ≤ tk4 by omega), _, rfl, rfl⟩
 replace hM := ite_f hb9 hM
 refine run_puG (on_of rfl rfl rfl rfl) (move_step (.inl rfl) rfl) rfl (ltb rfl) ?_
 refine run_puG (on_of rfl rfl rfl rfl) (abin_step rfl rfl rfl rfl (fun _ h => by cases h)) rfl (ltb rfl) ?_
 refine yP rfl ?_
 refine yL rfl ?_
 refine run_splitb (i := 12) rfl (fun hb10 => ?_) (fun hb10 => ?_)
 ·replace hM := ite_t hb10 hM
  refine yO rfl ?_
  refine yO rfl ?_
  refine yP rfl ?_
  refine yN ?_
  refine run_if rfl rfl (fun _ => ?_) (fun h => by cases h)
  refine run_sr ?_
  refine yR rfl ?_
  refine yN ?_
  refine run_ret_to ?_
  replace hM := some_t hM
  subst hM
  refine fin_x hG rfl rfl rfl (v' := .bool false) (by rfl) ⟨rfl, (show tk ≤ tk4 by omega), _, rfl, rfl⟩
 replace hM := ite_f hb10 hM
 refine run_puG (on_of rfl rfl rfl rfl) (move_step (.inl rfl) rfl) rfl (ltb rfl) ?_
 refine run_puG (on_of rfl rfl rfl rfl) (abin_step rfl rfl rfl rfl (fun _ h => by cases h)) rfl (ltb rfl) ?_
 refine yP rfl ?_
 refine yN ?_
 refine run_ifb rfl rfl (fun hb11 => ?_) (fun hb11 => ?_)
 ·replace hM := ite_t hb11 hM
  refine run_sr ?_
  refine yR rfl ?_
  refine yN ?_
  refine run_ret_to ?_
  replace hM := some_t hM
  subst hM
  refine fin_x hG rfl rfl rfl (v' := .bool false) (by rfl) ⟨rfl, (show tk ≤ tk4 by omega), _, rfl, rfl⟩
 replace hM := ite_f hb11 hM
 refine run_skip ?_
 refine run_sr ?_
 refine yL rfl ?_
 obtain ⟨r12, hg13, hM⟩ := bind_t hM
 refine yK rfl (str_CutPrefix_ok t1 ⟨#[120]⟩ hg13 _ _) (callK_retX (fun v tk14 (hle15 : tk4 ≤ tk14) h16 => ?_))
 obtain ⟨ra21, ra22, va23, va24, rfl, rfl, rfl, rfl⟩ := h16
 refine yL rfl ?_
 refine run_pu rfl (extract_step rfl rfl rfl) rfl (ltb rfl) ?_
 refine run_pu rfl (extract_step rfl rfl rfl) rfl (ltb rfl) ?_
 refine yR rfl ?_
 refine yR rfl ?_
 refine yN ?_
 refine run_sub_code (σ' := ⟨[(2, .bool false), (3, .str ra21), (4, .bool ra22)], [], [], O, tk14⟩) (Sub.env _ ⟨rfl, rfl, rfl, trivial⟩) ?_
 refine run_sr ?_
 refine yL rfl ?_
 refine run_pu rfl (aun_step rfl rfl rfl) rfl (ltb rfl) ?_
 refine yL rfl ?_
 refine run_splitb (i := 23) rfl (fun hb25 => ?_) (fun hb25 => ?_)
 ·replace hM := ite_t hb25 hM
  refine yO rfl ?_
  refine yO rfl ?_
  refine yP rfl ?_
  refine yL rfl ?_
  refine yO rfl ?_
  refine yO rfl ?_
  refine yO rfl ?_
  refine yP rfl ?_
  refine yR rfl ?_
  refine yN ?_
  refine run_ret_to ?_
  replace hM := some_t hM
  subst hM
  refine fin_x hG rfl rfl rfl (v' := .bool true) (by rfl) ⟨rfl, (show tk ≤ tk14 by omega), _, rfl, rfl⟩
 replace hM := ite_f hb25 hM
 refine run_puG (on_of rfl rfl rfl rfl) (move_step (.inl rfl) rfl) rfl (ltb rfl) ?_
 refine run_puG (on_of rfl rfl rfl rfl) (abin_step rfl rfl rfl rfl (fun _ h => by cases h)) rfl (ltb rfl) ?_
 refine yP rfl ?_
 refine yL rfl ?_
 refine run_splitb (i := 27) rfl (fun hb26 => ?_) (fun hb26 => ?_)
 ·replace hM := ite_t hb26 hM
  refine yO rfl ?_
  refine yO rfl ?_
  refine yO rfl ?_
  refine yP rfl ?_
  refine yR rfl ?_
  refine yN ?_
  refine run_ret_to ?_
  replace hM := some_t hM
  subst hM
  refine fin_x hG rfl rfl rfl (v' := .bool true) (by rfl) ⟨rfl, (show tk ≤ tk14 by omega), _, rfl, rfl⟩
 replace hM := ite_f hb26 hM
 refine run_puG (on_of rfl rfl rfl rfl) (move_step (.inl rfl) rfl) rfl (ltb rfl) ?_
 obtain ⟨r27, hg28, hM⟩ := bind_t hM
 refine yG (on_of rfl rfl rfl rfl) rfl (i_over_ok ra21 ⟨#[48, 49, 50, 51, 52, 53, 54, 55, 56, 57]⟩ hg28 _ _) (callK_retX (fun v tk29 (hle30 : tk14 ≤ tk29) h31 => ?_))
 subst h31
 refine run_puG (on_of rfl rfl rfl rfl) (aun_step rfl rfl rfl) rfl (ltb rfl) ?_
 refine yP rfl ?_
 refine yR rfl ?_
 refine yN ?_
 refine run_ret_to ?_
 replace hM := some_t hM
 subst hM
 refine fin_x hG rfl rfl rfl (v' := .bool (!r27)) (by rfl) ⟨rfl, (show tk ≤ tk29 by omega), _, rfl, rfl⟩

def s_l00Letter (i1 : Int) : Option Bool :=
 if i1 ≥ 97 then
  if i1 ≤ 122 then
   some true
  else
   if i1 ≥ 65 then
    if i1 ≤ 90 then
     some true
    else
     some (i1 == 95)
   else
    some (i1 == 95)
 else
  if i1 ≥ 65 then
   if i1 ≤ 90 then
    some true
   else
    some (i1 == 95)
  else
   some (i1 == 95)

set_option maxRecDepth 100000 in
theorem s_l00Letter_ok : ∀ (i1 : Int) {r : Bool}, s_l00Letter i1 = some r → ∀ (O : Heap) (tk : Nat), ACalls Go.Proofs.Tryz.prog 114 [.int .u8 i1] O tk (RetX O tk (fun v tk' => v = .bool r)) := by
 intro i1 r hM O tk
 unfold s_l00Letter at hM
 refine acalls_of_run Go.Proofs.Tryz.func114 rfl rfl [] [] (Bor.nil _) [(0, .int .u8 i1)] (.cons (entS rfl) (.nil _)) (leb rfl) (fun _ h => by cases h) (fun S0 hO htk hfz => ?_)
 refine run_sr ?_
 refine yR rfl ?_
 refine yN ?_
 refine run_sr ?_
 refine yL rfl ?_
 refine yB rfl ?_
 refine yL rfl ?_
 refine run_splitd (i := 5) rfl (fun hb2 => ?_) (fun hb2 => ?_)
 ·replace hM := ite_t hb2 hM
  refine run_puG (on_of rfl rfl rfl rfl) (move_step (.inl rfl) rfl) rfl (ltb rfl) ?_
  refine run_puG (on_of rfl rfl rfl rfl) (abin_step rfl rfl rfl rfl (fun _ h => by cases h)) rfl (ltb rfl) ?_
  refine yP rfl ?_
  refine yL rfl ?_
  refine run_splitd (i := 9) rfl (fun hb3 => ?_) (fun hb3 => ?_)
  ·replace hM := ite_t hb3 hM
   refine yO rfl ?_
   refine yO rfl ?_
   refine yO rfl ?_
   refine run_off (off_un rfl rfl rfl) rfl (ltb rfl) ?_
   refine run_off (off_un rfl rfl rfl) rfl (ltb rfl) ?_
   refine yO rfl ?_
   refine yP rfl ?_
   refine yL rfl ?_
   refine yO rfl ?_
   refine yO rfl ?_
   refine yP rfl ?_
   refine yR rfl ?_
   refine yN ?_
   refine run_ret_to ?_
   replace hM := some_t hM
   subst hM
   refine fin_x hG rfl rfl rfl (v' := .bool true) (by rfl) ⟨rfl, (show tk ≤ tk by omega), _, rfl, rfl⟩
  replace hM := ite_f hb3 hM
  refine run_puG (on_of rfl rfl rfl rfl) (move_step (.inl rfl) rfl) rfl (ltb rfl) ?_
  refine run_puG (on_of rfl rfl rfl rfl) (abin_step rfl rfl rfl rfl (fun _ h => by cases h)) rfl (ltb rfl) ?_
  refine run_puG (on_of rfl rfl rfl rfl) (move_step (.inl rfl) rfl) rfl (ltb rfl) ?_
  refine run_splitd (i := 12) rfl (fun hb4 => ?_) (fun hb4 => ?_)
  ·replace hM := ite_t hb4 hM
   refine run_puG (on_of rfl rfl rfl rfl) (move_step (.inl rfl) rfl) rfl (ltb rfl) ?_
   refine run_puG (on_of rfl rfl rfl rfl) (abin_step rfl rfl rfl rfl (fun _ h => by cases h)) rfl (ltb rfl) ?_
   refine run_puG (on_of rfl rfl rfl rfl) (pick_step rfl rfl rfl) rfl (ltb rfl) ?_
   refine yP rfl ?_
   refine yL rfl ?_
   refine run_splitd (i := 17) rfl (fun hb5 => ?_) (fun hb5 => ?_)
   ·replace hM := ite_t hb5 hM
    refine yO rfl ?_
    refine yO rfl ?_
    refine yP rfl ?_
    refine yR rfl ?_
    refine yN ?_
    refine run_ret_to ?_
    replace hM := some_t hM
    subst hM
    refine fin_x hG rfl rfl rfl (v' := .bool true) (by rfl) ⟨rfl, (show tk ≤ tk by omega), _, rfl, rfl⟩
   replace hM := ite_f hb5 hM
   refine run_puG (on_of rfl rfl rfl rfl) (move_step (.inl rfl) rfl) rfl (ltb rfl) ?_
   refine run_puG (on_of rfl rfl rfl rfl) (abin_step rfl rfl rfl rfl (fun _ h => by cases h)) rfl (ltb rfl) ?_
   refine yP rfl ?_
   refine yR rfl ?_
   refine yN ?_
   refine run_ret_to ?_
   replace hM := some_t hM
   subst hM
   refine fin_x hG rfl rfl rfl (v' := .bool (i1 == 95)) (by rfl) ⟨rfl, (show tk ≤ tk by omega), _, rfl, rfl⟩
  replace hM := ite_f hb4 hM
  refine yO rfl ?_
  refine yO rfl ?_
  refine run_puG (on_of rfl rfl rfl rfl) (pick_step rfl rfl rfl) rfl (ltb rfl) ?_
  refine yP rfl ?_
  refine yL rfl ?_
  refine run_puG (on_of rfl rfl rfl rfl) (move_step (.inl rfl) rfl) rfl (ltb rfl) ?_
  refine run_puG (on_of rfl rfl rfl rfl) (abin_step rfl rfl rfl rfl (fun _ h => by cases h)) rfl (ltb rfl) ?_
  refine yP rfl ?_
  refine yR rfl ?_
  refine yN ?_
  refine run_ret_to ?_
  replace hM := some_t hM
  subst hM
  refine fin_x hG rfl rfl rfl (v' := .bool (i1 == 95)) (by rfl) ⟨rfl, (show tk ≤ tk by omega), _, rfl, rfl⟩
 replace hM := ite_f hb2 hM
 refine yO rfl ?_
 refine yO rfl ?_
 refine yP rfl ?_
 refine yL rfl ?_
 refine run_puG (on_of rfl rfl rfl rfl) (move_step (.inl rfl) rfl) rfl (ltb rfl) ?_
 refine run_puG (on_of rfl rfl rfl rfl) (abin_step rfl rfl rfl rfl (fun _ h => by cases h)) rfl (ltb rfl) ?_
 refine run_puG (on_of rfl rfl rfl rfl) (move_step (.inl rfl) rfl) rfl (ltb rfl) ?_
 refine run_splitd (i := 12) rfl (fun hb6 => ?_) (fun hb6 => ?_)
 ·replace hM := ite_t hb6 hM
  refine run_puG (on_of rfl rfl rfl rfl) (move_step (.inl rfl) rfl) rfl (ltb rfl) ?_
  refine run_puG (on_of rfl rfl rfl rfl) (abin_step rfl rfl rfl rfl (fun _ h => by cases h)) rfl (ltb rfl) ?_
  refine run_puG (on_of rfl rfl rfl rfl) (pick_step rfl rfl rfl) rfl (ltb rfl) ?_
  refine yP rfl ?_
  refine yL rfl ?_
  refine run_splitd (i := 17) rfl (fun hb7 => ?_) (fun hb7 => ?_)
  ·replace hM := ite_t hb7 hM
   refine yO rfl ?_
   refine yO rfl ?_
   refine yP rfl ?_
   refine yR rfl ?_
   refine yN ?_
   refine run_ret_to ?_
   replace hM := some_t hM
   subst hM
   refine fin_x hG rfl rfl rfl (v' := .bool true) (by rfl) ⟨rfl, (show tk ≤ tk by omega), _, rfl, rfl⟩
  replace hM := ite_f hb7 hM
  refine run_puG (on_of rfl rfl rfl rfl) (move_step (.inl rfl) rfl) rfl (ltb rfl) ?_
  refine run_puG (on_of rfl rfl rfl rfl) (abin_step rfl rfl rfl rfl (fun _ h => by cases h)) rfl (ltb rfl) ?_
  refine yP rfl ?_
  refine yR rfl ?_
  refine yN ?_
  refine run_ret_to ?_
  replace hM := some_t hM
  subst hM
  refine fin_x hG rfl rfl rfl (v' := .bool (i1 == 95)) (by rfl) ⟨rfl, (show tk ≤ tk by omega), _, rfl, rfl⟩
 replace hM := ite_f hb6 hM
 refine yO rfl ?_
 refine yO rfl ?_
 refine run_puG (on_of rfl rfl rfl rfl) (pick_step rfl rfl rfl) rfl (ltb rfl) ?_
 refine yP rfl ?_
 refine yL rfl ?_
 refine run_puG (on_of rfl rfl rfl rfl) (move_step (.inl rfl) rfl) rfl (ltb rfl) ?_
 refine run_puG (on_of rfl rfl rfl rfl) (abin_step rfl rfl rfl rfl (fun _ h => by cases h)) rfl (ltb rfl) ?_
 refine yP rfl ?_
 refine yR rfl ?_
 refine yN ?_
 refine run_ret_to ?_
 replace hM := some_t hM
 subst hM
 refine fin_x hG rfl rfl rfl (v' := .bool (i1 == 95)) (by rfl) ⟨rfl, (show tk ≤ tk by omega), _, rfl, rfl⟩

def s_l00Digit (i1 : Int) : Option Bool :=
 if i1 ≥ 48 then
  some (decide (i1 ≤ 57))
 else
  some false

set_option maxRecDepth 100000 in
theorem s_l00Digit_ok : ∀ (i1 : Int) {r : Bool}, s_l00Digit i1 = some r → ∀ (O : Heap) (tk : Nat), ACalls Go.Proofs.Tryz.prog 100 [.int .u8 i1] O tk (RetX O tk (fun v tk' => v = .bool r)) := by
 intro i1 r hM O tk
 unfold s_l00Digit at hM
 refine acalls_of_run Go.Proofs.Tryz.func100 rfl rfl [] [] (Bor.nil _) [(0, .int .u8 i1)] (.cons (entS rfl) (.nil _)) (leb rfl) (fun _ h => by cases h) (fun S0 hO htk hfz => ?_)
 refine run_sr ?_
 refine yR rfl ?_
 refine yN ?_
 refine run_sr ?_
 refine yL rfl ?_
 refine yB rfl ?_
 refine yL rfl ?_
 refine run_splitd (i := 5) rfl (fun hb2 => ?_) (fun hb2 => ?_)
 ·replace hM := ite_t hb2 hM
  refine run_puG (on_of rfl rfl rfl rfl) (move_step (.inl rfl) rfl) rfl (ltb rfl) ?_
  refine run_puG (on_of rfl rfl rfl rfl) (abin_step rfl rfl rfl rfl (fun _ h => by cases h)) rfl (ltb rfl) ?_
  refine yP rfl ?_
  refine yR rfl ?_
  refine yN ?_
  refine run_ret_to ?_
  replace hM := some_t hM
  subst hM
  refine fin_x hG rfl rfl rfl (v' := .bool (decide (i1 ≤ 57))) (by rfl) ⟨rfl, (show tk ≤ tk by omega), _, rfl, rfl⟩
 replace hM := ite_f hb2 hM
 refine yO rfl ?_
 refine yO rfl ?_
 refine yP rfl ?_
 refine yR rfl ?_
 refine yN ?_
 refine run_ret_to ?_
 replace hM := some_t hM
 subst hM
 refine fin_x hG rfl rfl rfl (v' := .bool false) (by rfl) ⟨rfl, (show tk ≤ tk by omega), _, rfl, rfl⟩

def s_l00Word_L1 (t1 : ByteArray) : Nat → Int → Option Bool
 | 0, _ => none
 | m + 1, i14 =>
  if i14 < (t1.size : Int) then
   (byteAt t1 i14).bind fun y16 =>
   (s_l00Letter y16).bind fun r18 =>
   if (!r18) = true then
    (byteAt t1 i14).bind fun y26 =>
    (s_l00Digit y26).bind fun r28 =>
    if (!r28) = true then
     some false
    else
     s_l00Word_L1 t1 m (IntKind.i64.wrap (i14 + 1))
   else
    s_l00Word_L1 t1 m (IntKind.i64.wrap (i14 + 1))
  else
   some true

def s_l00Word (n : Nat) (t1 : ByteArray) : Option Bool :=
 if (t1.size : Int) < 1 then
  some false
 else
  if (t1.size : Int) > 40 then
   some false
  else
   (byteAt t1 0).bind fun y4 =>
   (s_l00Letter y4).bind fun r6 =>
   if (!r6) = true then
    some false
   else
    s_l00Word_L1 t1 n 1

set_option maxRecDepth 100000 in
theorem s_l00Word_ok (n : Nat) : ∀ (t1 : ByteArray) {r : Bool}, s_l00Word n t1 = some r → ∀ (O : Heap) (tk : Nat), ACalls Go.Proofs.Tryz.prog 99 [.str t1] O tk (RetX O tk (fun v tk' => v = .bool r)) := by
 intro t1 r hM O tk
 unfold s_l00Word at hM
 refine acalls_of_run Go.Proofs.Tryz.func99 rfl rfl [] [] (Bor.nil _) [(0, .str t1)] (.cons (entS rfl) (.nil _)) (leb rfl) (fun _ h => by cases h) (fun S0 hO htk hfz => ?_)
 refine run_sr ?_
 refine yR rfl ?_
 refine yN ?_
 refine run_seq ?_
 refine run_sr ?_
 refine yL rfl ?_
 refine run_pu rfl (len_step hG rfl rfl rfl rfl) rfl (ltb rfl) ?_
 refine yB rfl ?_
 refine yL rfl ?_
 refine run_splitd (i := 7) rfl (fun hb2 => ?_) (fun hb2 => ?_)
 ·replace hM := ite_t hb2 hM
  refine yO rfl ?_
  refine yO rfl ?_
  refine yO rfl ?_
  refine yP rfl ?_
  refine yL rfl ?_
  refine yO rfl ?_
  refine yO rfl ?_
  refine yO rfl ?_
  refine yO rfl ?_
  refine yP rfl ?_
  refine yN ?_
  refine run_if rfl rfl (fun _ => ?_) (fun h => by cases h)
  refine run_sr ?_
  refine yR rfl ?_
  refine yN ?_
  refine run_ret_to ?_
  replace hM := some_t hM
  subst hM
  refine fin_x hG rfl rfl rfl (v' := .bool false) (by rfl) ⟨rfl, (show tk ≤ tk by omega), _, rfl, rfl⟩
 replace hM := ite_f hb2 hM
 refine run_puG (on_of rfl rfl rfl rfl) (move_step (.inl rfl) rfl) rfl (ltb rfl) ?_
 refine run_puG (on_of rfl rfl rfl rfl) (len_step hG rfl rfl rfl rfl) rfl (ltb rfl) ?_
 refine run_puG (on_of rfl rfl rfl rfl) (abin_step rfl rfl rfl rfl (fun _ h => by cases h)) rfl (ltb rfl) ?_
 refine yP rfl ?_
 refine yL rfl ?_
 refine run_splitd (i := 12) rfl (fun hb3 => ?_) (fun hb3 => ?_)
 ·replace hM := ite_t hb3 hM
  refine yO rfl ?_
  refine yO rfl ?_
  refine yO rfl ?_
  refine yO rfl ?_
  refine yP rfl ?_
  refine yN ?_
  refine run_if rfl rfl (fun _ => ?_) (fun h => by cases h)
  refine run_sr ?_
  refine yR rfl ?_
  refine yN ?_
  refine run_ret_to ?_
  replace hM := some_t hM
  subst hM
  refine fin_x hG rfl rfl rfl (v' := .bool false) (by rfl) ⟨rfl, (show tk ≤ tk by omega), _, rfl, rfl⟩
 replace hM := ite_f hb3 hM
 refine run_puG (on_of rfl rfl rfl rfl) (move_step (.inl rfl) rfl) rfl (ltb rfl) ?_
 obtain ⟨y4, hy5, hM⟩ := bind_t hM
 refine run_puG (on_of rfl rfl rfl rfl) (strIndex_step hG rfl rfl rfl rfl rfl hy5) rfl (ltb rfl) ?_
 obtain ⟨r6, hg7, hM⟩ := bind_t hM
 refine yG (on_of rfl rfl rfl rfl) rfl (s_l00Letter_ok y4 hg7 _ _) (callK_retX (fun v tk8 (hle9 : tk ≤ tk8) h10 => ?_))
 subst h10
 refine run_puG (on_of rfl rfl rfl rfl) (aun_step rfl rfl rfl) rfl (ltb rfl) ?_
 refine yP rfl ?_
 refine yN ?_
 refine run_sub_code (σ' := ⟨[(0, .str t1), (2, .bool false), (17, .bool (!r6))], [], [], O, tk8⟩) (Sub.env _ ⟨rfl, rfl, rfl, trivial⟩) ?_
 refine run_ifb rfl rfl (fun hb13 => ?_) (fun hb13 => ?_)
 ·replace hM := ite_t hb13 hM
  refine run_sr ?_
  refine yR rfl ?_
  refine yN ?_
  refine run_ret_to ?_
  replace hM := some_t hM
  subst hM
  refine fin_x hG rfl rfl rfl (v' := .bool false) (by rfl) ⟨rfl, (show tk ≤ tk8 by omega), _, rfl, rfl⟩
 replace hM := ite_f hb13 hM
 refine run_skip ?_
 refine run_seq ?_
 refine run_sr ?_
 refine yR rfl ?_
 refine yN ?_
 refine run_block ?_
 refine run_rounds (fun m σ => ∃ (i14 : Int) (tks_l00Word_L1 : Nat), tk8 ≤ tks_l00Word_L1 ∧ s_l00Word_L1 t1 m i14 = some r ∧ σ = ⟨[(0, .str t1), (2, .bool false), (3, .int .i64 i14)], [], [], O, tks_l00Word_L1⟩) n (Sub.pk [0, 2, 3] rfl) ⟨1, tk8, Nat.le_refl _, hM, rfl⟩ (fun m σ hI => ?_)
 clear hM
 obtain ⟨i14, tks_l00Word_L1, hle36, hM, rfl⟩ := hI
 obtain _ | m := m
 ·exact absurd hM (by rw [s_l00Word_L1]; exact fun h => by cases h)
 rw [s_l00Word_L1] at hM
 refine run_seq ?_
 refine run_sr ?_
 refine yL rfl ?_
 refine yL rfl ?_
 refine run_pu rfl (len_step hG rfl rfl rfl rfl) rfl (ltb rfl) ?_
 refine yB rfl ?_
 refine yN ?_
 refine run_ifd rfl rfl (fun hb15 => ?_) (fun hb15 => ?_)
 ·replace hM := ite_t hb15 hM
  refine run_skip ?_
  refine run_seq ?_
  refine run_block ?_
  refine run_sr ?_
  refine yL rfl ?_
  refine yL rfl ?_
  obtain ⟨y16, hy17, hM⟩ := bind_t hM
  refine run_pu rfl (strIndex_step hG rfl rfl rfl rfl rfl hy17) rfl (ltb rfl) ?_
  obtain ⟨r18, hg19, hM⟩ := bind_t hM
  refine yK rfl (s_l00Letter_ok y16 hg19 _ _) (callK_retX (fun v tk20 (hle21 : tks_l00Word_L1 ≤ tk20) h22 => ?_))
  subst h22
  refine run_pu rfl (aun_step rfl rfl rfl) rfl (ltb rfl) ?_
  refine yL rfl ?_
  refine run_splitb (i := 29) rfl (fun hb25 => ?_) (fun hb25 => ?_)
  ·replace hM := ite_t hb25 hM
   refine run_puG (on_of rfl rfl rfl rfl) (move_step (.inl rfl) rfl) rfl (ltb rfl) ?_
   refine run_puG (on_of rfl rfl rfl rfl) (move_step (.inl rfl) rfl) rfl (ltb rfl) ?_
   obtain ⟨y26, hy27, hM⟩ := bind_t hM
   refine run_puG (on_of rfl rfl rfl rfl) (strIndex_step hG rfl rfl rfl rfl rfl hy27) rfl (ltb rfl) ?_
   obtain ⟨r28, hg29, hM⟩ := bind_t hM
   refine yG (on_of rfl rfl rfl rfl) rfl (s_l00Digit_ok y26 hg29 _ _) (callK_retX (fun v tk30 (hle31 : tk20 ≤ tk30) h32 => ?_))
   subst h32
   refine run_puG (on_of rfl rfl rfl rfl) (aun_step rfl rfl rfl) rfl (ltb rfl) ?_
   refine yP rfl ?_
   refine yN ?_
   refine run_sub_code (σ' := ⟨[(0, .str t1), (2, .bool false), (3, .int .i64 i14), (35, .bool (!r28))], [], [], O, tk30⟩) (Sub.env _ ⟨rfl, rfl, rfl, rfl, trivial⟩) ?_
   refine run_ifb rfl rfl (fun hb35 => ?_) (fun hb35 => ?_)
   ·replace hM := ite_t hb35 hM
    refine run_sr ?_
    refine yR rfl ?_
    refine yN ?_
    refine run_ret_to ?_
    replace hM := some_t hM
    subst hM
    refine fin_x hG rfl rfl rfl (v' := .bool false) (by rfl) ⟨rfl, (show tk ≤ tk30 by omega), _, rfl, rfl⟩
   replace hM := ite_f hb35 hM
   refine run_skip ?_
   refine run_blk ?_
   refine run_region ?_
   refine yL rfl ?_
   refine yB rfl ?_
   refine yR rfl ?_
   refine yN ?_
   exact run_loop_end ⟨m, _, Nat.lt_succ_self _, ⟨(IntKind.i64.wrap (i14 + 1)), tk30, (show tk8 ≤ tk30 by omega), hM, rfl⟩, Sub.pk [0, 2, 3] rfl⟩
  replace hM := ite_f hb25 hM
  refine yO rfl ?_
  refine yO rfl ?_
  refine yO rfl ?_
  refine yO rfl ?_
  refine yO rfl ?_
  refine yP rfl ?_
  refine yN ?_
  refine run_if rfl rfl (fun h => by cases h) (fun _ => ?_)
  refine run_skip ?_
  refine run_blk ?_
  refine run_region ?_
  refine yL rfl ?_
  refine yB rfl ?_
  refine yR rfl ?_
  refine yN ?_
  exact run_loop_end ⟨m, _, Nat.lt_succ_self _, ⟨(IntKind.i64.wrap (i14 + 1)), tk20, (show tk8 ≤ tk20 by omega), hM, rfl⟩, Sub.pk [0, 2, 3] rfl⟩
 replace hM := ite_f hb15 hM
 refine run_exit_to rfl ?_
 refine run_sr ?_
 refine yR rfl ?_
 refine yN ?_
 refine run_ret_to ?_
 replace hM := some_t hM
 subst hM
 refine fin_x hG rfl rfl rfl (v' := .bool true) (by rfl) ⟨rfl, (show tk ≤ tks_l00Word_L1 by omega), _, rfl, rfl⟩

def s_NameOK_L1 (t1 : ByteArray) : Nat → Int → Option Bool
 | 0, _ => none
 | m + 1, i12 =>
  if i12 < (t1.size : Int) then
   (byteAt t1 0).bind fun y14 =>
   if (y14 != 120) = true then
    some true
   else
    (byteAt t1 i12).bind fun y17 =>
    (s_l00Digit y17).bind fun r19 =>
    if (!r19) = true then
     some true
    else
     s_NameOK_L1 t1 m (IntKind.i64.wrap (i12 + 1))
  else
   (byteAt t1 0).bind fun y27 =>
   if (y27 != 120) = true then
    some true
   else
    some ((t1.size : Int) == 1)

def s_NameOK (n : Nat) (t1 : ByteArray) : Option Bool :=
 (s_l00Word n t1).bind fun r2 =>
 if (!r2) = true then
  some false
 else
  if (t1.toList == (⟨#[116, 121, 112, 101]⟩ : ByteArray).toList) = true then
   some false
  else
   if (t1.toList == (⟨#[95]⟩ : ByteArray).toList) = true then
    some false
   else
    s_NameOK_L1 t1 n 1

set_option maxRecDepth 100000 in
theorem s_NameOK_ok (n : Nat) : ∀ (t1 : ByteArray) {r : Bool}, s_NameOK n t1 = some r → ∀ (O : Heap) (tk : Nat), ACalls Go.Proofs.Tryz.prog 67 [.str t1] O tk (RetX O tk (fun v tk' => v = .bool r)) := by
 intro t1 r hM O tk
 unfold s_NameOK at hM
 refine acalls_of_run Go.Proofs.Tryz.func67 rfl rfl [] [] (Bor.nil _) [(0, .str t1)] (.cons (entS rfl) (.nil _)) (leb rfl) (fun _ h => by cases h) (fun S0 hO htk hfz => ?_)
 refine run_sr ?_
 refine yR rfl ?_
 refine yN ?_
 refine run_seq ?_
 refine run_sr ?_
 refine yL rfl ?_
 obtain ⟨r2, hg3, hM⟩ := bind_t hM
 refine yK rfl (s_l00Word_ok n t1 hg3 _ _) (callK_retX (fun v tk4 (hle5 : tk ≤ tk4) h6 => ?_))
 subst h6
 refine run_pu rfl (aun_step rfl rfl rfl) rfl (ltb rfl) ?_
 refine yL rfl ?_
 refine run_splitb (i := 7) rfl (fun hb9 => ?_) (fun hb9 => ?_)
 ·replace hM := ite_t hb9 hM
  refine yO rfl ?_
  refine yO rfl ?_
  refine yP rfl ?_
  refine yL rfl ?_
  refine yO rfl ?_
  refine yO rfl ?_
  refine yP rfl ?_
  refine yN ?_
  refine run_if rfl rfl (fun _ => ?_) (fun h => by cases h)
  refine run_sr ?_
  refine yR rfl ?_
  refine yN ?_
  refine run_ret_to ?_
  replace hM := some_t hM
  subst hM
  refine fin_x hG rfl rfl rfl (v' := .bool false) (by rfl) ⟨rfl, (show tk ≤ tk4 by omega), _, rfl, rfl⟩
 replace hM := ite_f hb9 hM
 refine run_puG (on_of rfl rfl rfl rfl) (move_step (.inl rfl) rfl) rfl (ltb rfl) ?_
 refine run_puG (on_of rfl rfl rfl rfl) (abin_step rfl rfl rfl rfl (fun _ h => by cases h)) rfl (ltb rfl) ?_
 refine yP rfl ?_
 refine yL rfl ?_
 refine run_splitb (i := 11) rfl (fun hb10 => ?_) (fun hb10 => ?_)
 ·replace hM := ite_t hb10 hM
  refine yO rfl ?_
  refine yO rfl ?_
  refine yP rfl ?_
  refine yN ?_
  refine run_if rfl rfl (fun _ => ?_) (fun h => by cases h)
  refine run_sr ?_
  refine yR rfl ?_
  refine yN ?_
  refine run_ret_to ?_
  replace hM := some_t hM
  subst hM
  refine fin_x hG rfl rfl rfl (v' := .bool false) (by rfl) ⟨rfl, (show tk ≤ tk4 by omega), _, rfl, rfl⟩
 replace hM := ite_f hb10 hM
 refine run_puG (on_of rfl rfl rfl rfl) (move_step (.inl rfl) rfl) rfl (ltb rfl) ?_
 refine run_puG (on_of rfl rfl rfl rfl) (abin_step rfl rfl rfl rfl (fun _ h => by cases h)) rfl (ltb rfl) ?_
 refine yP rfl ?_
 refine yN ?_
 refine run_ifb rfl rfl (fun hb11 => ?_) (fun hb11 => ?_)
 ·replace hM := ite_t hb11 hM
  refine run_sr ?_
  refine yR rfl ?_
  refine yN ?_
  refine run_ret_to ?_
  replace hM := some_t hM
  subst hM
  refine fin_x hG rfl rfl rfl (v' := .bool false) (by rfl) ⟨rfl, (show tk ≤ tk4 by omega), _, rfl, rfl⟩
 replace hM := ite_f hb11 hM
 refine run_skip ?_
 refine run_seq ?_
 refine run_sr ?_
 refine yR rfl ?_
 refine yN ?_
 refine run_block ?_
 refine run_rounds (fun m σ => ∃ (i12 : Int) (tks_NameOK_L1 : Nat), tk4 ≤ tks_NameOK_L1 ∧ s_NameOK_L1 t1 m i12 = some r ∧ σ = ⟨[(0, .str t1), (2, .bool false), (3, .int .i64 i12)], [], [], O, tks_NameOK_L1⟩) n (Sub.pk [0, 2, 3] rfl) ⟨1, tk4, Nat.le_refl _, hM, rfl⟩ (fun m σ hI => ?_)
 clear hM
 obtain ⟨i12, tks_NameOK_L1, hle30, hM, rfl⟩ := hI
 obtain _ | m := m
 ·exact absurd hM (by rw [s_NameOK_L1]; exact fun h => by cases h)
 rw [s_NameOK_L1] at hM
 refine run_seq ?_
 refine run_sr ?_
 refine yL rfl ?_
 refine yL rfl ?_
 refine run_pu rfl (len_step hG rfl rfl rfl rfl) rfl (ltb rfl) ?_
 refine yB rfl ?_
 refine yN ?_
 refine run_ifd rfl rfl (fun hb13 => ?_) (fun hb13 => ?_)
 ·replace hM := ite_t hb13 hM
  refine run_skip ?_
  refine run_seq ?_
  refine run_block ?_
  refine run_sr ?_
  refine yL rfl ?_
  obtain ⟨y14, hy15, hM⟩ := bind_t hM
  refine run_pu rfl (strIndex_step hG rfl rfl rfl rfl rfl hy15) rfl (ltb rfl) ?_
  refine yB rfl ?_
  refine yL rfl ?_
  refine run_splitb (i := 24) rfl (fun hb16 => ?_) (fun hb16 => ?_)
  ·replace hM := ite_t hb16 hM
   refine yO rfl ?_
   refine yO rfl ?_
   refine yO rfl ?_
   refine yO rfl ?_
   refine yO rfl ?_
   refine yP rfl ?_
   refine yN ?_
   refine run_if rfl rfl (fun _ => ?_) (fun h => by cases h)
   refine run_sr ?_
   refine yR rfl ?_
   refine yN ?_
   refine run_ret_to ?_
   replace hM := some_t hM
   subst hM
   refine fin_x hG rfl rfl rfl (v' := .bool true) (by rfl) ⟨rfl, (show tk ≤ tks_NameOK_L1 by omega), _, rfl, rfl⟩
  replace hM := ite_f hb16 hM
  refine run_puG (on_of rfl rfl rfl rfl) (move_step (.inl rfl) rfl) rfl (ltb rfl) ?_
  refine run_puG (on_of rfl rfl rfl rfl) (move_step (.inl rfl) rfl) rfl (ltb rfl) ?_
  obtain ⟨y17, hy18, hM⟩ := bind_t hM
  refine run_puG (on_of rfl rfl rfl rfl) (strIndex_step hG rfl rfl rfl rfl rfl hy18) rfl (ltb rfl) ?_
  obtain ⟨r19, hg20, hM⟩ := bind_t hM
  refine yG (on_of rfl rfl rfl rfl) rfl (s_l00Digit_ok y17 hg20 _ _) (callK_retX (fun v tk21 (hle22 : tks_NameOK_L1 ≤ tk21) h23 => ?_))
  subst h23
  refine run_puG (on_of rfl rfl rfl rfl) (aun_step rfl rfl rfl) rfl (ltb rfl) ?_
  refine yP rfl ?_
  refine yN ?_
  refine run_sub_code (σ' := ⟨[(0, .str t1), (2, .bool false), (3, .int .i64 i12), (30, .bool (!r19))], [], [], O, tk21⟩) (Sub.env _ ⟨rfl, rfl, rfl, rfl, trivial⟩) ?_
  refine run_ifb rfl rfl (fun hb26 => ?_) (fun hb26 => ?_)
  ·replace hM := ite_t hb26 hM
   refine run_sr ?_
   refine yR rfl ?_
   refine yN ?_
   refine run_ret_to ?_
   replace hM := some_t hM
   subst hM
   refine fin_x hG rfl rfl rfl (v' := .bool true) (by rfl) ⟨rfl, (show tk ≤ tk21 by omega), _, rfl, rfl⟩
  replace hM := ite_f hb26 hM
  refine run_skip ?_
  refine run_blk ?_
  refine run_region ?_
  refine yL rfl ?_
  refine yB rfl ?_
  refine yR rfl ?_
  refine yN ?_
  exact run_loop_end ⟨m, _, Nat.lt_succ_self _, ⟨(IntKind.i64.wrap (i12 + 1)), tk21, (show tk4 ≤ tk21 by omega), hM, rfl⟩, Sub.pk [0, 2, 3] rfl⟩
 replace hM := ite_f hb13 hM
 refine run_exit_to rfl ?_
 refine run_sr ?_
 refine yL rfl ?_
 obtain ⟨y27, hy28, hM⟩ := bind_t hM
 refine run_pu rfl (strIndex_step hG rfl rfl rfl rfl rfl hy28) rfl (ltb rfl) ?_
 refine yB rfl ?_
 refine yL rfl ?_
 refine run_splitb (i := 34) rfl (fun hb29 => ?_) (fun hb29 => ?_)
 ·replace hM := ite_t hb29 hM
  refine yO rfl ?_
  refine yO rfl ?_
  refine yO rfl ?_
  refine yP rfl ?_
  refine yR rfl ?_
  refine yN ?_
  refine run_ret_to ?_
  replace hM := some_t hM
  subst hM
  refine fin_x hG rfl rfl rfl (v' := .bool true) (by rfl) ⟨rfl, (show tk ≤ tks_NameOK_L1 by omega), _, rfl, rfl⟩
 replace hM := ite_f hb29 hM
 refine run_puG (on_of rfl rfl rfl rfl) (move_step (.inl rfl) rfl) rfl (ltb rfl) ?_
 refine run_puG (on_of rfl rfl rfl rfl) (len_step hG rfl rfl rfl rfl) rfl (ltb rfl) ?_
 refine run_puG (on_of rfl rfl rfl rfl) (abin_step rfl rfl rfl rfl (fun _ h => by cases h)) rfl (ltb rfl) ?_
 refine yP rfl ?_
 refine yR rfl ?_
 refine yN ?_
 refine run_ret_to ?_
 replace hM := some_t hM
 subst hM
 refine fin_x hG rfl rfl rfl (v' := .bool ((t1.size : Int) == 1)) (by rfl) ⟨rfl, (show tk ≤ tks_NameOK_L1 by omega), _, rfl, rfl⟩

end Go.Am.YtoajlhhalpldfaaGreatDoor
