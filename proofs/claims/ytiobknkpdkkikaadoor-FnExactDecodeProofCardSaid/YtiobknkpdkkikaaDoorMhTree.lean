/- Printed by a program of ours: Lean functions that do what the Go functions do, and the contracts. -/
import Derived.Test.YtiobknkpdkkikaaDoorMi1
import Derived.Test.YtiobknkpdkkikaaDoorTypes
namespace Go.Am.YtiobknkpdkkikaaDoor
open Go Go.Am

def w_markText_L1 : Nat → Int → ByteArray → Option ByteArray
  | 0, _, _ => none
  | m + 1, i3, t4 =>
    if i3 > 0 then
      chk ((bytesOf [(IntKind.u8.wrap (IntKind.i64.wrap (48 + (Int.tmod i3 10))))]).size + t4.size ≤ 9223372036854775807) <|
      w_markText_L1 m (IntKind.i64.wrap (Int.tdiv i3 10)) ((bytesOf [(IntKind.u8.wrap (IntKind.i64.wrap (48 + (Int.tmod i3 10))))]) ++ t4)
    else
      chk ((⟨#[109]⟩ : ByteArray).size + t4.size ≤ 9223372036854775807) <|
      some ((⟨#[109]⟩ : ByteArray) ++ t4)

def w_markText (n : Nat) (i1 : Int) : Option ByteArray :=
  if i1 ≤ 0 then
    some (⟨#[109, 48]⟩)
  else
    w_markText_L1 n i1 (⟨#[]⟩)

set_option maxRecDepth 100000 in
theorem w_markText_ok (n : Nat) : ∀ (i1 : Int) {r : ByteArray}, w_markText n i1 = some r → ∀ (O : Heap) (tk : Nat), ACalls Go.Proofs.Tryd.prog 95 [.int .i64 i1] O tk (RetX O tk (fun v tk' => v = .str r)) := by
  intro i1 r hM O tk
  unfold w_markText at hM
  refine acalls_of_run Go.Proofs.Tryd.func95 rfl rfl [] [] (Bor.nil _) [(0, .int .i64 i1)] (.cons (entS rfl) (.nil _)) (leb rfl) (fun _ h => by cases h) (fun S0 hO htk hfz => ?_)
  refine run_seq ?_
  refine run_region ?_
  refine run_pu rfl (move_step (.inr rfl) rfl) rfl (ltb rfl) ?_
  refine run_ops_nil ?_
  refine run_seq ?_
  refine run_seq ?_
  refine run_region ?_
  refine run_pu rfl (move_step (.inl rfl) rfl) rfl (ltb rfl) ?_
  refine run_pu rfl (abin_step rfl rfl rfl rfl (fun _ h => by cases h)) rfl (ltb rfl) ?_
  refine run_ops_nil ?_
  refine run_ifd rfl rfl (fun hb2 => ?_) (fun hb2 => ?_)
  · replace hM := ite_t hb2 hM
    refine run_seq ?_
    refine run_region ?_
    refine run_pu rfl (move_step (.inr rfl) rfl) rfl (ltb rfl) ?_
    refine run_ops_nil ?_
    refine run_ret_to ?_
    obtain rfl := some_t hM
    refine fin_x hG rfl rfl rfl (v' := .str ⟨#[109, 48]⟩) (by rfl) ⟨rfl, (show tk ≤ tk by omega), _, rfl, rfl⟩
  · replace hM := ite_f hb2 hM
    refine run_skip ?_
    refine run_seq ?_
    refine run_region ?_
    refine run_pu rfl (move_step (.inr rfl) rfl) rfl (ltb rfl) ?_
    refine run_ops_nil ?_
    refine run_seq ?_
    refine run_block ?_
    refine run_rounds (fun m σ => ∃ (i3 : Int) (t4 : ByteArray) (tkw_markText_L1 : Nat), tk ≤ tkw_markText_L1 ∧ w_markText_L1 m i3 t4 = some r ∧ σ = ⟨[(0, .int .i64 i3), (2, .str ⟨#[]⟩), (3, .str t4)], [], [], O, tkw_markText_L1⟩) n (Sub.env [(0, .int .i64 i1), (2, .str ⟨#[]⟩), (3, .str ⟨#[]⟩)] ⟨rfl, rfl, rfl, trivial⟩) ⟨i1, ⟨#[]⟩, tk, Nat.le_refl _, hM, rfl⟩ (fun m σ hI => ?_)
    clear hM
    obtain ⟨i3, t4, tkw_markText_L1, hle8, hM, rfl⟩ := hI
    obtain _ | m := m
    · exact absurd hM (by rw [w_markText_L1]; exact fun h => by cases h)
    rw [w_markText_L1] at hM
    refine run_seq ?_
    refine run_seq ?_
    refine run_region ?_
    refine run_pu rfl (move_step (.inl rfl) rfl) rfl (ltb rfl) ?_
    refine run_pu rfl (abin_step rfl rfl rfl rfl (fun _ h => by cases h)) rfl (ltb rfl) ?_
    refine run_ops_nil ?_
    refine run_ifd rfl rfl (fun hb5 => ?_) (fun hb5 => ?_)
    · replace hM := ite_t hb5 hM
      refine run_skip ?_
      refine run_block ?_
      refine run_seq ?_
      refine run_region ?_
      refine run_pu rfl (move_step (.inl rfl) rfl) rfl (ltb rfl) ?_
      refine run_pu rfl (abin_step rfl rfl rfl rfl (fun _ h => by cases h)) rfl (ltb rfl) ?_
      refine run_pu rfl (abin_step rfl rfl rfl rfl (fun _ h => by cases h)) rfl (ltb rfl) ?_
      refine run_pu rfl (convInt_step hG rfl rfl rfl rfl rfl) rfl (ltb rfl) ?_
      refine run_op rfl (buildSlice_step (d := 12) hG rfl rfl rfl rfl rfl (by rfl) (by rfl) (by rfl) (by decide)) rfl (ltb rfl) ?_
      refine run_rd rfl (bytesStr_rd hG rfl rfl rfl (xs := [(IntKind.u8.wrap (IntKind.i64.wrap (48 + (Int.tmod i3 10))))]) rfl (by simp) rfl rfl rfl rfl rfl rfl) rfl (ltb rfl) ?_
      refine run_pu rfl (move_step (.inl rfl) rfl) rfl (ltb rfl) ?_
      obtain ⟨hc6, hM⟩ := chk_t hM
      refine run_pu rfl (strAdd_step rfl rfl rfl hc6) rfl (ltb rfl) ?_
      refine run_pu rfl (move_step (.inr rfl) rfl) rfl (ltb rfl) ?_
      refine run_ops_nil ?_
      refine run_region ?_
      refine run_pu rfl (move_step (.inl rfl) rfl) rfl (ltb rfl) ?_
      refine run_pu rfl (abin_step rfl rfl rfl rfl (fun _ h => by cases h)) rfl (ltb rfl) ?_
      refine run_pu rfl (move_step (.inr rfl) rfl) rfl (ltb rfl) ?_
      refine run_ops_nil ?_
      refine run_blk ?_
      exact run_loop_end ⟨m, _, Nat.lt_succ_self _, ⟨(IntKind.i64.wrap (Int.tdiv i3 10)), ((bytesOf [(IntKind.u8.wrap (IntKind.i64.wrap (48 + (Int.tmod i3 10))))]) ++ t4), tkw_markText_L1, (show tk ≤ tkw_markText_L1 by omega), hM, rfl⟩, Sub.trans (Sub.drop (k := 12) rfl) (Sub.env [(0, .int .i64 (IntKind.i64.wrap (Int.tdiv i3 10))), (2, .str ⟨#[]⟩), (3, .str ((bytesOf [(IntKind.u8.wrap (IntKind.i64.wrap (48 + (Int.tmod i3 10))))]) ++ t4))] ⟨rfl, rfl, rfl, trivial⟩)⟩
    · replace hM := ite_f hb5 hM
      refine run_exit_to rfl ?_
      refine run_seq ?_
      refine run_region ?_
      refine run_pu rfl (move_step (.inl rfl) rfl) rfl (ltb rfl) ?_
      obtain ⟨hc7, hM⟩ := chk_t hM
      refine run_pu rfl (strAdd_step rfl rfl rfl hc7) rfl (ltb rfl) ?_
      refine run_pu rfl (move_step (.inr rfl) rfl) rfl (ltb rfl) ?_
      refine run_ops_nil ?_
      refine run_ret_to ?_
      obtain rfl := some_t hM
      refine fin_x hG rfl rfl rfl (v' := .str ((⟨#[109]⟩ : ByteArray) ++ t4)) (by rfl) ⟨rfl, (show tk ≤ tkw_markText_L1 by omega), _, rfl, rfl⟩

def w_heldTreeS_L1 (rec_w_heldTreeS : List T → Int → Option Int) (n : Nat) (l1 : List T) : Nat → Int → Int → Option Int
  | 0, _, _ => none
  | m + 1, i3, i4 =>
    if i4 < ((l1).length : Int) then
      (idx l1 i4).bind fun y6 =>
      if (y6.kind != i3) = true then
        some (-1)
      else
        (idx l1 i4).bind fun y12 =>
        if (y12.n != (IntKind.i64.wrap (i3 + 1))) = true then
          some (-1)
        else
          (idx l1 i4).bind fun y18 =>
          (w_markText n (IntKind.i64.wrap ((IntKind.i64.wrap (i3 + 1)) + 1))).bind fun r23 =>
          if (!(y18.name.toList == r23.toList)) = true then
            some (-1)
          else
            (idx l1 i4).bind fun y31 =>
            (rec_w_heldTreeS y31.kids (IntKind.i64.wrap ((IntKind.i64.wrap ((IntKind.i64.wrap (i3 + 1)) + 1)) + 1))).bind fun r36 =>
            if r36 < 0 then
              some (-1)
            else
              w_heldTreeS_L1 rec_w_heldTreeS n l1 m r36 (IntKind.i64.wrap (i4 + 1))
    else
      some i3

def w_heldTreeS : Nat → List T → Int → Option Int
  | 0, _, _ => none
  | n + 1, l1, i2 =>
    w_heldTreeS_L1 (w_heldTreeS n) n l1 n i2 0

def w_heldTree (n : Nat) (x1 : T) (i2 : Int) : Option Int :=
  (w_heldTreeS n x1.kids i2).bind fun r3 =>
  if r3 < 0 then
    some (-1)
  else
    some r3

end Go.Am.YtiobknkpdkkikaaDoor
