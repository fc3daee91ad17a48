/- Printed by a program of ours: Lean functions that do what the Go functions do, and the contracts. -/
import Derived.Test.YtaedacibojpfkaaDoorMl0
import Derived.Test.YtaedacibojpfkaaDoorMb1
import Derived.Test.YtaedacibojpfkaaDoorMb3
import Derived.Test.YtaedacibojpfkaaDoorTypes
import Derived.Test.YtaedacibojpfkaaDoorMi4
import Derived.Test.YtaedacibojpfkaaDoorMc1
import Derived.Test.YtaedacibojpfkaaDoorEkRes
import Derived.Test.YtaedacibojpfkaaDoorDkSimple
-- packed
namespace Go.Am.YtaedacibojpfkaaDoor
open Go Go.Am

def i_takes_L1 : Nat → Int → Int → ByteArray → List T → List T → Option (List T × T)
 | 0, _, _, _, _, _ => none
 | m + 1, i2, i3, t4, l5, l6 =>
  if i2 = 10 then
   (idx l5 0).bind fun y8 =>
   chk ((l6).length + ([y8]).length ≤ 1099511627776) <|
   (idx l5 1).bind fun y14 =>
   i_takes_L1 m y14.kind y14.n y14.name y14.kids (l6 ++ [y8])
  else
   some (l6, (T.mk i2 i3 t4 l5))

def i_takes (n : Nat) (x1 : T) : Option (List T × T) :=
 i_takes_L1 n x1.kind x1.n x1.name x1.kids ([])

set_option maxRecDepth 100000 in
theorem i_takes_ok (n : Nat) : ∀ (k1 : Int) (n1 : Int) (s1 : ByteArray) (q1 : Nat) (f1 : Bool) (ks1 : List LT) {r : (List T × T)}, i_takes n (T.mk k1 n1 s1 (ers ks1)) = some r → ∀ (O : Heap) (tk : Nat), ACalls Go.Proofs.Tryd.prog 142 [.agg [.int .i64 k1, .int .i64 n1, .str s1, .imm q1 4 f1 (cellss ks1)]] O tk (RetX O tk (fun v tk' => ∃ r0' r1' v0' v1', r = (r0', r1') ∧ v = .tup [v0', v1'] ∧ VTs false tk tk' r0' v0' ∧ VT false tk tk' r1' v1')) := by
 intro k1 n1 s1 q1 f1 ks1 r hM O tk
 unfold i_takes at hM
 refine acalls_of_run Go.Proofs.Tryd.func142 rfl rfl [] [] (Bor.nil _) [(0, .agg [.int .i64 k1, .int .i64 n1, .str s1, .imm q1 4 f1 (cellss ks1)])] (.cons (.agg _) (.nil _)) (leb rfl) (fun _ h => by cases h) (fun S0 hO htk hfz => ?_)
 refine run_sr ?_
 refine run_op rfl (box_step (d := 1) rfl rfl rfl rfl rfl) rfl (ltb rfl) ?_
 refine mvR rfl rfl rfl rfl (ltb rfl) ?_
 refine run_op rfl (alloc_step (d := 3) hG rfl rfl rfl) rfl (ltb rfl) ?_
 refine run_ops_nil ?_
 refine run_sr ?_
 refine run_op rfl (buildSlice_step (d := 5) hG rfl rfl rfl rfl rfl (by rfl) (by rfl) (by rfl) (by decide)) rfl (ltb rfl) ?_
 refine mvR rfl rfl rfl rfl (ltb rfl) ?_
 refine run_ops_nil ?_
 refine run_seq ?_
 refine run_block ?_
 refine run_rounds (fun m σ => ∃ (i2 : Int) (i3 : Int) (t4 : ByteArray) (q5 : Nat) (f5 : Bool) (ks5 : List LT) (ks6 : List LT) (tki_takes_L1 : Nat), tk ≤ tki_takes_L1 ∧ i_takes_L1 m i2 i3 t4 (ers ks5) (ers ks6) = some r ∧ σ = ⟨[(1, .optr (.loc 1) 0 0), (2, .imm 0 0 true []), (3, .optr (.loc 3) 0 0), (4, .osl (.loc 5))], [(5, ⟨25, 4, false, cellss ks6⟩), (3, ⟨25, 4, true, [[.int .i64 0, .int .i64 0, .str ⟨#[]⟩, .imm 0 4 true []]]⟩), (1, ⟨25, 4, true, [[.int .i64 i2, .int .i64 i3, .str t4, .imm q5 4 f5 (cellss ks5)]]⟩)], [], O, tki_takes_L1⟩) n (Sub.env [(1, .optr (.loc 1) 0 0), (2, .imm 0 0 true []), (3, .optr (.loc 3) 0 0), (4, .osl (.loc 5))] ⟨rfl, rfl, rfl, rfl, trivial⟩) ⟨k1, n1, s1, q1, f1, ks1, [], tk, Nat.le_refl _, hM, rfl⟩ (fun m σ hI => ?_)
 clear hM
 obtain ⟨i2, i3, t4, q5, f5, ks5, ks6, tki_takes_L1, hle42, hM, rfl⟩ := hI
 obtain _ | m := m
 ·exact absurd hM (by rw [i_takes_L1]; exact fun h => by cases h)
 rw [i_takes_L1] at hM
 refine run_seq ?_
 refine run_sr ?_
 refine run_pu rfl (fieldAddr_step hG rfl rfl rfl rfl rfl) rfl (ltb rfl) ?_
 refine run_ld hG rfl rfl rfl rfl rfl (ltb rfl) ?_
 refine run_bin rfl rfl rfl rfl rfl rfl rfl (ltb rfl) ?_
 refine run_ops_nil ?_
 refine run_ifd rfl rfl (fun hb7 => ?_) (fun hb7 => ?_)
 ·replace hM := ite_t hb7 hM
  refine run_skip ?_
  refine run_block ?_
  refine run_draw [.loc 1, .loc 5] (n := 13) mixed rfl (by intro x hx; simp only [List.mem_cons, List.not_mem_nil, or_false] at hx; rcases hx with rfl | rfl <;> rfl) ?_
  refine AAny.take (i := 0) rfl (by kernel_rfl) (by kernel_rfl) (by kernel_rfl) rfl rfl (ltb rfl) ((move_step (.inl rfl) rfl).rd _) ?_
  refine AAny.take (i := 1) rfl (by kernel_rfl) (by kernel_rfl) (by kernel_rfl) rfl rfl (ltb rfl) ((fieldAddr_step hG rfl rfl rfl rfl rfl).rd _) ?_
  refine AAny.take (i := 7) rfl (by kernel_rfl) (by kernel_rfl) (by kernel_rfl) rfl rfl (ltb rfl) ((fieldAddr_step hG rfl rfl rfl rfl rfl).rd _) ?_
  obtain ⟨y8, hy9, hM⟩ := bind_t hM
  obtain ⟨hc13, hM⟩ := chk_t hM
  obtain ⟨y14, hy15, hM⟩ := bind_t hM
  refine AAny.each (rs := [2, 8]) (by kernel_rfl) (fun h => by cases h) (fun i hi => ?_)
  simp only [List.mem_cons, List.not_mem_nil, or_false] at hi
  rcases hi with rfl | rfl
  ·refine AOp.rd rfl rfl rfl (ltb rfl) (aload_rd hG rfl rfl rfl (by first | (simp [ldok]; done) | exact List.not_mem_nil | trivial)) ?_
   obtain ⟨k10, n10, s10, q10, f10, ks10, rfl, hc11, hi12⟩ := tidx (ks := ks5) hy9
   refine AAny.take (i := 3) rfl (by kernel_rfl) (by kernel_rfl) (by kernel_rfl) rfl rfl (ltb rfl) ((indexImm_step hG rfl rfl rfl hi12 rfl rfl rfl rfl hc11).rd _) ?_
   refine AAny.take (i := 4) rfl (by kernel_rfl) (by kernel_rfl) (by kernel_rfl) rfl rfl (ltb rfl) (aload_rd hG rfl rfl rfl (by first | (simp [ldok]; done) | exact List.not_mem_nil | trivial)) ?_
   refine AAny.each (rs := [5, 8]) (by kernel_rfl) (fun h => by cases h) (fun i hi => ?_)
   simp only [List.mem_cons, List.not_mem_nil, or_false] at hi
   rcases hi with rfl | rfl
   ·refine AOp.step rfl rfl rfl (ltb rfl) (buildSlice_step (d := 14) hG rfl rfl rfl rfl rfl (by rfl) (by rfl) (by rfl) (by decide)) (fun _ h => absurd h List.not_mem_nil) ?_
    refine AAny.each (rs := [6, 8]) (by kernel_rfl) (fun h => by cases h) (fun i hi => ?_)
    simp only [List.mem_cons, List.not_mem_nil, or_false] at hi
    rcases hi with rfl | rfl
    ·try rw [show ((ers ks6) ++ [(T.mk k10 n10 s10 (ers ks10))] : List T) = (ers (ks6 ++ [LT.mk k10 n10 s10 q10 f10 ks10])) from ers_app ks6 [LT.mk k10 n10 s10 q10 f10 ks10]] at hM
     refine AOp.step rfl rfl rfl (ltb rfl) (appendM_step hG rfl rfl rfl rfl rfl rfl rfl rfl rfl rfl rfl (cellss_sz ([LT.mk k10 n10 s10 q10 f10 ks10])) (tlen ks6) (tlen ([LT.mk k10 n10 s10 q10 f10 ks10])) hc13 (by decide) (cellss_app _ _)) (by intro x hx; simp only [List.mem_cons, List.not_mem_nil, or_false] at hx; subst hx; simp) ?_
     refine AAny.take (i := 11) rfl (by kernel_rfl) (by kernel_rfl) (by kernel_rfl) rfl rfl (ltb rfl) ((move_step (.inr rfl) rfl).rd _) ?_
     refine AAny.one (i := 8) (by kernel_rfl) (AOp.rd rfl rfl rfl (ltb rfl) (aload_rd hG rfl rfl rfl (by first | (simp [ldok]; done) | exact List.not_mem_nil | trivial)) ?_)
     obtain ⟨k16, n16, s16, q16, f16, ks16, rfl, hc17, hi18⟩ := tidx (ks := ks5) hy15
     refine AAny.take (i := 9) rfl (by kernel_rfl) (by kernel_rfl) (by kernel_rfl) rfl rfl (ltb rfl) ((indexImm_step hG rfl rfl rfl hi18 rfl rfl rfl rfl hc17).rd _) ?_
     refine AAny.take (i := 10) rfl (by kernel_rfl) (by kernel_rfl) (by kernel_rfl) rfl rfl (ltb rfl) (aload_rd hG rfl rfl rfl (by first | (simp [ldok]; done) | exact List.not_mem_nil | trivial)) ?_
     refine AAny.one (i := 12) (by kernel_rfl) (AOp.step0 rfl rfl rfl (store_step hG rfl rfl rfl rfl rfl rfl rfl rfl) (by intro x hx; have hx : x ∈ [ID.loc 1] := hx; simp only [List.mem_cons, List.not_mem_nil, or_false] at hx; subst hx; simp) ?_)
     refine AAny.done (by kernel_rfl) ?_
     refine run_blk ?_
     exact run_loop_end ⟨m, _, Nat.lt_succ_self _, ⟨k16, n16, s16, q16, f16, ks16, (ks6 ++ [LT.mk k10 n10 s10 q10 f10 ks10]), tki_takes_L1, (show tk ≤ tki_takes_L1 by omega), hM, rfl⟩, Sub.trans (Sub.drop (k := 14) rfl) (Sub.env [(1, .optr (.loc 1) 0 0), (2, .imm 0 0 true []), (3, .optr (.loc 3) 0 0), (4, .osl (.loc 5))] ⟨rfl, rfl, rfl, rfl, trivial⟩)⟩
    ·refine AOp.rd rfl rfl rfl (ltb rfl) (aload_rd hG rfl rfl rfl (by first | (simp [ldok]; done) | exact List.not_mem_nil | trivial)) ?_
     obtain ⟨y19, hy20, rfl⟩ : ∃ y, _ = some y ∧ y = y14 := ⟨_, hy15, rfl⟩
     obtain ⟨k21, n21, s21, q21, f21, ks21, rfl, hc22, hi23⟩ := tidx (ks := ks5) hy20
     refine AAny.take (i := 9) rfl (by kernel_rfl) (by kernel_rfl) (by kernel_rfl) rfl rfl (ltb rfl) ((indexImm_step hG rfl rfl rfl hi23 rfl rfl rfl rfl hc22).rd _) ?_
     refine AAny.take (i := 10) rfl (by kernel_rfl) (by kernel_rfl) (by kernel_rfl) rfl rfl (ltb rfl) (aload_rd hG rfl rfl rfl (by first | (simp [ldok]; done) | exact List.not_mem_nil | trivial)) ?_
     have hc24 := hc13
     try rw [show ((ers ks6) ++ [(T.mk k10 n10 s10 (ers ks10))] : List T) = (ers (ks6 ++ [LT.mk k10 n10 s10 q10 f10 ks10])) from ers_app ks6 [LT.mk k10 n10 s10 q10 f10 ks10]] at hM
     refine AAny.one (i := 6) (by kernel_rfl) (AOp.step rfl rfl rfl (ltb rfl) (appendM_step hG rfl rfl rfl rfl rfl rfl rfl rfl rfl rfl rfl (cellss_sz ([LT.mk k10 n10 s10 q10 f10 ks10])) (tlen ks6) (tlen ([LT.mk k10 n10 s10 q10 f10 ks10])) hc24 (by decide) (cellss_app _ _)) (by intro x hx; simp only [List.mem_cons, List.not_mem_nil, or_false] at hx; subst hx; simp) ?_)
     refine AAny.take (i := 11) rfl (by kernel_rfl) (by kernel_rfl) (by kernel_rfl) rfl rfl (ltb rfl) ((move_step (.inr rfl) rfl).rd _) ?_
     refine AAny.one (i := 12) (by kernel_rfl) (AOp.step0 rfl rfl rfl (store_step hG rfl rfl rfl rfl rfl rfl rfl rfl) (by intro x hx; have hx : x ∈ [ID.loc 1] := hx; simp only [List.mem_cons, List.not_mem_nil, or_false] at hx; subst hx; simp) ?_)
     refine AAny.done (by kernel_rfl) ?_
     refine run_blk ?_
     exact run_loop_end ⟨m, _, Nat.lt_succ_self _, ⟨k21, n21, s21, q21, f21, ks21, (ks6 ++ [LT.mk k10 n10 s10 q10 f10 ks10]), tki_takes_L1, (show tk ≤ tki_takes_L1 by omega), hM, rfl⟩, Sub.trans (Sub.drop (k := 14) rfl) (Sub.env [(1, .optr (.loc 1) 0 0), (2, .imm 0 0 true []), (3, .optr (.loc 3) 0 0), (4, .osl (.loc 5))] ⟨rfl, rfl, rfl, rfl, trivial⟩)⟩
   ·refine AOp.rd rfl rfl rfl (ltb rfl) (aload_rd hG rfl rfl rfl (by first | (simp [ldok]; done) | exact List.not_mem_nil | trivial)) ?_
    obtain ⟨y25, hy26, rfl⟩ : ∃ y, _ = some y ∧ y = y14 := ⟨_, hy15, rfl⟩
    obtain ⟨k27, n27, s27, q27, f27, ks27, rfl, hc28, hi29⟩ := tidx (ks := ks5) hy26
    refine AAny.take (i := 9) rfl (by kernel_rfl) (by kernel_rfl) (by kernel_rfl) rfl rfl (ltb rfl) ((indexImm_step hG rfl rfl rfl hi29 rfl rfl rfl rfl hc28).rd _) ?_
    refine AAny.take (i := 10) rfl (by kernel_rfl) (by kernel_rfl) (by kernel_rfl) rfl rfl (ltb rfl) (aload_rd hG rfl rfl rfl (by first | (simp [ldok]; done) | exact List.not_mem_nil | trivial)) ?_
    refine AAny.one (i := 5) (by kernel_rfl) (AOp.step rfl rfl rfl (ltb rfl) (buildSlice_step (d := 14) hG rfl rfl rfl rfl rfl (by rfl) (by rfl) (by rfl) (by decide)) (fun _ h => absurd h List.not_mem_nil) ?_)
    have hc30 := hc13
    try rw [show ((ers ks6) ++ [(T.mk k10 n10 s10 (ers ks10))] : List T) = (ers (ks6 ++ [LT.mk k10 n10 s10 q10 f10 ks10])) from ers_app ks6 [LT.mk k10 n10 s10 q10 f10 ks10]] at hM
    refine AAny.one (i := 6) (by kernel_rfl) (AOp.step rfl rfl rfl (ltb rfl) (appendM_step hG rfl rfl rfl rfl rfl rfl rfl rfl rfl rfl rfl (cellss_sz ([LT.mk k10 n10 s10 q10 f10 ks10])) (tlen ks6) (tlen ([LT.mk k10 n10 s10 q10 f10 ks10])) hc30 (by decide) (cellss_app _ _)) (by intro x hx; simp only [List.mem_cons, List.not_mem_nil, or_false] at hx; subst hx; simp) ?_)
    refine AAny.take (i := 11) rfl (by kernel_rfl) (by kernel_rfl) (by kernel_rfl) rfl rfl (ltb rfl) ((move_step (.inr rfl) rfl).rd _) ?_
    refine AAny.one (i := 12) (by kernel_rfl) (AOp.step0 rfl rfl rfl (store_step hG rfl rfl rfl rfl rfl rfl rfl rfl) (by intro x hx; have hx : x ∈ [ID.loc 1] := hx; simp only [List.mem_cons, List.not_mem_nil, or_false] at hx; subst hx; simp) ?_)
    refine AAny.done (by kernel_rfl) ?_
    refine run_blk ?_
    exact run_loop_end ⟨m, _, Nat.lt_succ_self _, ⟨k27, n27, s27, q27, f27, ks27, (ks6 ++ [LT.mk k10 n10 s10 q10 f10 ks10]), tki_takes_L1, (show tk ≤ tki_takes_L1 by omega), hM, rfl⟩, Sub.trans (Sub.drop (k := 14) rfl) (Sub.env [(1, .optr (.loc 1) 0 0), (2, .imm 0 0 true []), (3, .optr (.loc 3) 0 0), (4, .osl (.loc 5))] ⟨rfl, rfl, rfl, rfl, trivial⟩)⟩
  ·refine AOp.rd rfl rfl rfl (ltb rfl) (aload_rd hG rfl rfl rfl (by first | (simp [ldok]; done) | exact List.not_mem_nil | trivial)) ?_
   obtain ⟨y31, hy32, rfl⟩ : ∃ y, _ = some y ∧ y = y14 := ⟨_, hy15, rfl⟩
   obtain ⟨k33, n33, s33, q33, f33, ks33, rfl, hc34, hi35⟩ := tidx (ks := ks5) hy32
   refine AAny.take (i := 9) rfl (by kernel_rfl) (by kernel_rfl) (by kernel_rfl) rfl rfl (ltb rfl) ((indexImm_step hG rfl rfl rfl hi35 rfl rfl rfl rfl hc34).rd _) ?_
   refine AAny.take (i := 10) rfl (by kernel_rfl) (by kernel_rfl) (by kernel_rfl) rfl rfl (ltb rfl) (aload_rd hG rfl rfl rfl (by first | (simp [ldok]; done) | exact List.not_mem_nil | trivial)) ?_
   refine AAny.one (i := 2) (by kernel_rfl) (AOp.rd rfl rfl rfl (ltb rfl) (aload_rd hG rfl rfl rfl (by first | (simp [ldok]; done) | exact List.not_mem_nil | trivial)) ?_)
   obtain ⟨y36, hy37, rfl⟩ : ∃ y, _ = some y ∧ y = y8 := ⟨_, hy9, rfl⟩
   obtain ⟨k38, n38, s38, q38, f38, ks38, rfl, hc39, hi40⟩ := tidx (ks := ks5) hy37
   refine AAny.take (i := 3) rfl (by kernel_rfl) (by kernel_rfl) (by kernel_rfl) rfl rfl (ltb rfl) ((indexImm_step hG rfl rfl rfl hi40 rfl rfl rfl rfl hc39).rd _) ?_
   refine AAny.take (i := 4) rfl (by kernel_rfl) (by kernel_rfl) (by kernel_rfl) rfl rfl (ltb rfl) (aload_rd hG rfl rfl rfl (by first | (simp [ldok]; done) | exact List.not_mem_nil | trivial)) ?_
   refine AAny.one (i := 5) (by kernel_rfl) (AOp.step rfl rfl rfl (ltb rfl) (buildSlice_step (d := 14) hG rfl rfl rfl rfl rfl (by rfl) (by rfl) (by rfl) (by decide)) (fun _ h => absurd h List.not_mem_nil) ?_)
   have hc41 := hc13
   try rw [show ((ers ks6) ++ [(T.mk k38 n38 s38 (ers ks38))] : List T) = (ers (ks6 ++ [LT.mk k38 n38 s38 q38 f38 ks38])) from ers_app ks6 [LT.mk k38 n38 s38 q38 f38 ks38]] at hM
   refine AAny.one (i := 6) (by kernel_rfl) (AOp.step rfl rfl rfl (ltb rfl) (appendM_step hG rfl rfl rfl rfl rfl rfl rfl rfl rfl rfl rfl (cellss_sz ([LT.mk k38 n38 s38 q38 f38 ks38])) (tlen ks6) (tlen ([LT.mk k38 n38 s38 q38 f38 ks38])) hc41 (by decide) (cellss_app _ _)) (by intro x hx; simp only [List.mem_cons, List.not_mem_nil, or_false] at hx; subst hx; simp) ?_)
   refine AAny.take (i := 11) rfl (by kernel_rfl) (by kernel_rfl) (by kernel_rfl) rfl rfl (ltb rfl) ((move_step (.inr rfl) rfl).rd _) ?_
   refine AAny.one (i := 12) (by kernel_rfl) (AOp.step0 rfl rfl rfl (store_step hG rfl rfl rfl rfl rfl rfl rfl rfl) (by intro x hx; have hx : x ∈ [ID.loc 1] := hx; simp only [List.mem_cons, List.not_mem_nil, or_false] at hx; subst hx; simp) ?_)
   refine AAny.done (by kernel_rfl) ?_
   refine run_blk ?_
   exact run_loop_end ⟨m, _, Nat.lt_succ_self _, ⟨k33, n33, s33, q33, f33, ks33, (ks6 ++ [LT.mk k38 n38 s38 q38 f38 ks38]), tki_takes_L1, (show tk ≤ tki_takes_L1 by omega), hM, rfl⟩, Sub.trans (Sub.drop (k := 14) rfl) (Sub.env [(1, .optr (.loc 1) 0 0), (2, .imm 0 0 true []), (3, .optr (.loc 3) 0 0), (4, .osl (.loc 5))] ⟨rfl, rfl, rfl, rfl, trivial⟩)⟩
 ·replace hM := ite_f hb7 hM
  refine run_exit_to rfl ?_
  refine run_seq ?_
  refine run_draw [.loc 3] (n := 4) mixed rfl (by intro x hx; simp only [List.mem_cons, List.not_mem_nil, or_false] at hx; rcases hx with rfl <;> rfl) ?_
  refine AAny.take (i := 0) rfl (by kernel_rfl) (by kernel_rfl) (by kernel_rfl) rfl rfl (ltb rfl) ((move_step (.inl rfl) rfl).rd _) ?_
  refine AAny.take (i := 1) rfl (by kernel_rfl) (by kernel_rfl) (by kernel_rfl) rfl rfl (ltb rfl) (aload_rd hG rfl rfl rfl (by first | (simp [ldok]; done) | exact List.not_mem_nil | trivial)) ?_
  refine AAny.take (i := 2) rfl (by kernel_rfl) (by kernel_rfl) (by kernel_rfl) rfl rfl (ltb rfl) ((move_step (.inr rfl) rfl).rd _) ?_
  refine AAny.one (i := 3) (by kernel_rfl) (AOp.step0 rfl rfl rfl (store_step hG rfl rfl rfl rfl rfl rfl rfl rfl) (by intro x hx; exact hx) ?_)
  refine AAny.done (by kernel_rfl) ?_
  refine run_ret_to ?_
  refine fin_sub (Sub.freeze (k := 5) rfl rfl) ?_
  obtain rfl := some_t hM
  refine fin_x hG rfl rfl rfl (v' := .tup [.imm tki_takes_L1 4 false (cellss ks6), .agg [.int .i64 i2, .int .i64 i3, .str t4, .imm q5 4 f5 (cellss ks5)]]) (by rfl) ⟨rfl, (show tk ≤ (tki_takes_L1 + 1) by omega), _, rfl, ⟨_, _, _, _, rfl, rfl, ⟨tki_takes_L1, false, ks6, rfl, rfl, fun h => by cases h⟩, ⟨i2, i3, t4, q5, f5, ks5, rfl, rfl, fun h => by cases h⟩⟩⟩

set_option maxRecDepth 100000 in
theorem i_lam_ex (k1 : Int) (n1 : Int) (s1 : ByteArray) (q1 : Nat) (f1 : Bool) (ks1 : List LT) (O : Heap) (tk : Nat) : ACalls Go.Proofs.Tryd.prog 147 [.agg [.int .i64 k1, .int .i64 n1, .str s1, .imm q1 4 f1 (cellss ks1)]] O tk (RetN O (.agg [.int .i64 4, .int .i64 0, .str ⟨#[]⟩, .imm tk 4 false (cellss [LT.mk k1 n1 s1 q1 f1 ks1])]) (tk + 1)) := by
 refine acalls_of_run Go.Proofs.Tryd.func147 rfl rfl [] [] (Bor.nil _) [(0, .agg [.int .i64 k1, .int .i64 n1, .str s1, .imm q1 4 f1 (cellss ks1)])] (.cons (.agg _) (.nil _)) (leb rfl) (fun _ h => by cases h) (fun S0 hO htk hfz => ?_)
 refine run_sr ?_
 refine run_op rfl (box_step (d := 1) rfl rfl rfl rfl rfl) rfl (ltb rfl) ?_
 refine run_op rfl (alloc_step (d := 2) hG rfl rfl rfl) rfl (ltb rfl) ?_
 refine run_ops_nil ?_
 refine run_sr ?_
 refine run_ld hG rfl rfl rfl rfl rfl (ltb rfl) ?_
 refine run_op rfl (buildSlice_step (d := 4) hG rfl rfl rfl rfl rfl (by rfl) (by rfl) (by rfl) (by decide)) rfl (ltb rfl) ?_
 refine run_pu rfl (build_step hG rfl (by rfl) rfl (fun h => by cases h) (by rfl)) rfl (ltb rfl) ?_
 refine run_op0 rfl (store_step hG rfl rfl rfl rfl rfl rfl rfl rfl) rfl ?_
 refine run_ops_nil ?_
 refine run_ret_to ?_
 refine fin_sub (Sub.freeze (k := 4) rfl rfl) ?_
 refine fin_x hG rfl rfl rfl (v' := .agg [.int .i64 4, .int .i64 0, .str ⟨#[]⟩, .imm tk 4 false (cellss [LT.mk k1 n1 s1 q1 f1 ks1])]) (by rfl) ⟨rfl, rfl, rfl⟩

set_option maxRecDepth 100000 in
theorem i_variable_ex (i1 : Int) (q2 : Nat) (f2 : Bool) (ks2 : List LT) (O : Heap) (tk : Nat) : ACalls Go.Proofs.Tryd.prog 120 [.int .i64 i1, .imm q2 4 f2 (cellss ks2)] O tk (RetN O (.agg [.int .i64 5, .int .i64 i1, .str ⟨#[]⟩, .imm q2 4 f2 (cellss ks2)]) tk) := by
 refine acalls_of_run Go.Proofs.Tryd.func120 rfl rfl [] [] (Bor.nil _) [(0, .int .i64 i1), (1, .imm q2 4 f2 (cellss ks2))] (.cons (entS rfl) (.cons (entS rfl) (.nil _))) (leb rfl) (fun _ h => by cases h) (fun S0 hO htk hfz => ?_)
 refine run_sr ?_
 refine run_op rfl (alloc_step (d := 4) hG rfl rfl rfl) rfl (ltb rfl) ?_
 refine run_ops_nil ?_
 refine run_sr ?_
 refine mvL rfl rfl rfl rfl (ltb rfl) ?_
 refine mvL rfl rfl rfl rfl (ltb rfl) ?_
 refine run_pu rfl (build_step hG rfl (by rfl) rfl (fun h => by cases h) (by rfl)) rfl (ltb rfl) ?_
 refine run_op0 rfl (store_step hG rfl rfl rfl rfl rfl rfl rfl rfl) rfl ?_
 refine run_ops_nil ?_
 refine run_ret_to ?_
 refine fin_x hG rfl rfl rfl (v' := .agg [.int .i64 5, .int .i64 i1, .str ⟨#[]⟩, .imm q2 4 f2 (cellss ks2)]) (by rfl) ⟨rfl, rfl, rfl⟩

def i_lift_c1__nk (x1 : T) (i2 : Int) (i3 : Int) (i4 : Int) : Option T :=
 if x1.n ≥ (IntKind.i64.wrap (i3 + i2)) then
  some (T.mk x1.kind (IntKind.i64.wrap (x1.n + i4)) x1.name [])
 else
  some (T.mk x1.kind x1.n x1.name [])

set_option maxRecDepth 100000 in
theorem i_lift_c1__nk_ok : ∀ (k1 : Int) (n1 : Int) (s1 : ByteArray) (i2 : Int) (X0 : ID) (i3 : Int) (X1 : ID) (i4 : Int) {r : T}, i_lift_c1__nk (T.mk k1 n1 s1 []) i2 i3 i4 = some r → ∀ (O : Heap) (tk : Nat), O X0 = some ⟨3, 1, true, [[.int .i64 i3]]⟩ → O X1 = some ⟨3, 1, true, [[.int .i64 i4]]⟩ → X0 ≠ X1 → ACalls Go.Proofs.Tryd.prog 91 [.agg [.int .i64 k1, .int .i64 n1, .str s1, .imm 0 4 true []], .int .i64 i2, .optr X0 0 0, .optr X1 0 0] O tk (RetX O tk (fun v tk' => VL r v)) := by
 intro k1 n1 s1 i2 X0 i3 X1 i4 r hM O tk hX0 hX1 hN01
 unfold i_lift_c1__nk at hM
 refine acalls_of_run Go.Proofs.Tryd.func91 rfl rfl [X0, X1] [⟨3, 1, true, [[.int .i64 i3]]⟩, ⟨3, 1, true, [[.int .i64 i4]]⟩] (Bor.two hX0 rfl hX1 rfl hN01) [(0, .agg [.int .i64 k1, .int .i64 n1, .str s1, .imm 0 4 true []]), (1, .int .i64 i2), (2, .optr (.bor 0) 0 0), (3, .optr (.bor 1) 0 0)] (.cons (.agg _) (.cons (entS rfl) (.cons (.bor 0 _ _ _ rfl) (.cons (.bor 1 _ _ _ rfl) (.nil _))))) (leb rfl) (by intro y h; simp only [List.mem_cons, List.not_mem_nil, or_false] at h; rcases h with rfl | rfl <;> simp [tch, tch0]) (fun S0 hO htk hfz => ?_)
 refine run_sr ?_
 refine run_op rfl (box_step (d := 4) rfl rfl rfl rfl rfl) rfl (ltb rfl) ?_
 refine run_op rfl (alloc_step (d := 6) hG rfl rfl rfl) rfl (ltb rfl) ?_
 refine run_ops_nil ?_
 refine run_seq ?_
 refine run_sr ?_
 refine run_pu rfl (fieldAddr_step hG rfl rfl rfl rfl rfl) rfl (ltb rfl) ?_
 refine run_ld hG rfl rfl rfl rfl rfl (ltb rfl) ?_
 refine run_ld hG rfl rfl rfl rfl rfl (ltb rfl) ?_
 refine mvL rfl rfl rfl rfl (ltb rfl) ?_
 refine run_bin rfl rfl rfl rfl rfl rfl rfl (ltb rfl) ?_
 refine run_bin rfl rfl rfl rfl rfl rfl rfl (ltb rfl) ?_
 refine run_ops_nil ?_
 refine run_ifd rfl rfl (fun hb5 => ?_) (fun hb5 => ?_)
 ·replace hM := ite_t hb5 hM
  refine run_region ?_
  refine run_pu rfl (fieldAddr_step hG rfl rfl rfl rfl rfl) rfl (ltb rfl) ?_
  refine run_ld hG rfl rfl rfl rfl rfl (ltb rfl) ?_
  refine run_ld hG rfl rfl rfl rfl rfl (ltb rfl) ?_
  refine run_bin rfl rfl rfl rfl rfl rfl rfl (ltb rfl) ?_
  refine run_pu rfl (fieldAddr_step hG rfl rfl rfl rfl rfl) rfl (ltb rfl) ?_
  refine run_op0 rfl (store_step hG rfl rfl rfl rfl rfl rfl rfl rfl) rfl ?_
  refine run_ops_nil ?_
  refine run_sub_code (σ' := ⟨[(4, .optr (.loc 4) 0 0), (6, .optr (.loc 6) 0 0)], [(6, ⟨25, 4, true, [[.int .i64 0, .int .i64 0, .str ⟨#[]⟩, .imm 0 4 true []]]⟩), (4, ⟨25, 4, true, [[.int .i64 k1, .int .i64 (IntKind.i64.wrap (n1 + i4)), .str s1, .imm 0 4 true []]]⟩)], [⟨3, 1, true, [[.int .i64 i3]]⟩, ⟨3, 1, true, [[.int .i64 i4]]⟩], O, tk⟩) (Sub.env _ ⟨rfl, rfl, trivial⟩) ?_
  refine run_sr ?_
  refine run_ld hG rfl rfl rfl rfl rfl (ltb rfl) ?_
  refine run_op0 rfl (store_step hG rfl rfl rfl rfl rfl rfl rfl rfl) rfl ?_
  refine run_ops_nil ?_
  refine run_ret_to ?_
  obtain rfl := some_t hM
  refine fin_x hG rfl rfl rfl (v' := .agg [.int .i64 k1, .int .i64 (IntKind.i64.wrap (n1 + i4)), .str s1, .imm 0 4 true (cellss [])]) (by rfl) ⟨out_same (Bor.two hX0 rfl hX1 rfl hN01), (show tk ≤ tk by omega), _, rfl, ⟨k1, (IntKind.i64.wrap (n1 + i4)), s1, rfl, rfl⟩⟩
 ·replace hM := ite_f hb5 hM
  refine run_skip ?_
  refine run_sr ?_
  refine run_ld hG rfl rfl rfl rfl rfl (ltb rfl) ?_
  refine run_op0 rfl (store_step hG rfl rfl rfl rfl rfl rfl rfl rfl) rfl ?_
  refine run_ops_nil ?_
  refine run_ret_to ?_
  obtain rfl := some_t hM
  refine fin_x hG rfl rfl rfl (v' := .agg [.int .i64 k1, .int .i64 n1, .str s1, .imm 0 4 true (cellss [])]) (by rfl) ⟨out_same (Bor.two hX0 rfl hX1 rfl hN01), (show tk ≤ tk by omega), _, rfl, ⟨k1, n1, s1, rfl, rfl⟩⟩

def i_turned__nk_fn_i_lift_c1vv_L1 (x1 : T) (i2 : Int) (i3 : Int) (i4 : Int) : Nat → Option T
 | 0 => none
 | m + 1 =>
  if x1.kind = 5 then
   (i_lift_c1__nk (T.mk x1.kind x1.n x1.name []) i2 i3 i4).bind fun r6 =>
   some (T.mk r6.kind r6.n r6.name [])
  else
   some (T.mk x1.kind x1.n x1.name [])

def i_turned__nk_fn_i_lift_c1vv (n : Nat) (x1 : T) (i2 : Int) (i3 : Int) (i4 : Int) : Option T :=
 i_turned__nk_fn_i_lift_c1vv_L1 x1 i2 i3 i4 n

set_option maxRecDepth 100000 in
theorem i_turned__nk_fn_i_lift_c1vv_ok (n : Nat) : ∀ (k1 : Int) (n1 : Int) (s1 : ByteArray) (i2 : Int) (X0 : ID) (i3 : Int) (X1 : ID) (i4 : Int) {r : T}, i_turned__nk_fn_i_lift_c1vv n (T.mk k1 n1 s1 []) i2 i3 i4 = some r → ∀ (O : Heap) (tk : Nat), O X0 = some ⟨3, 1, true, [[.int .i64 i3]]⟩ → O X1 = some ⟨3, 1, true, [[.int .i64 i4]]⟩ → X0 ≠ X1 → ACalls Go.Proofs.Tryd.prog 90 [.agg [.int .i64 k1, .int .i64 n1, .str s1, .imm 0 4 true []], .int .i64 i2, .fn (.func 91) [] [.optr X0 0 0, .optr X1 0 0]] O tk (RetX O tk (fun v tk' => VL r v)) := by
 intro k1 n1 s1 i2 X0 i3 X1 i4 r hM O tk hX0 hX1 hN01
 unfold i_turned__nk_fn_i_lift_c1vv at hM
 refine acalls_of_run Go.Proofs.Tryd.func90 rfl rfl [X0, X1] [⟨3, 1, true, [[.int .i64 i3]]⟩, ⟨3, 1, true, [[.int .i64 i4]]⟩] (Bor.two hX0 rfl hX1 rfl hN01) [(0, .agg [.int .i64 k1, .int .i64 n1, .str s1, .imm 0 4 true []]), (1, .int .i64 i2), (2, .fn (.func 91) [] [.optr (.bor 0) 0 0, .optr (.bor 1) 0 0])] (.cons (.agg _) (.cons (entS rfl) (.cons (ent_fn2 (.bor 0 _ _ _ rfl) (.bor 1 _ _ _ rfl)) (.nil _)))) (leb rfl) (by intro y h; simp only [List.mem_cons, List.not_mem_nil, or_false] at h; rcases h with rfl | rfl <;> simp [tch, tch0]) (fun S0 hO htk hfz => ?_)
 refine run_sr ?_
 refine run_op rfl (box_step (d := 3) rfl rfl rfl rfl rfl) rfl (ltb rfl) ?_
 refine run_op rfl (alloc_step (d := 6) hG rfl rfl rfl) rfl (ltb rfl) ?_
 refine run_ops_nil ?_
 refine run_sr ?_
 refine run_op rfl (nil0_step hG rfl rfl rfl rfl) rfl (ltb rfl) ?_
 refine mvR rfl rfl rfl rfl (ltb rfl) ?_
 refine run_ops_nil ?_
 refine run_seq ?_
 refine run_sr ?_
 refine run_pu rfl (fieldAddr_step hG rfl rfl rfl rfl rfl) rfl (ltb rfl) ?_
 refine run_ld hG rfl rfl rfl rfl rfl (ltb rfl) ?_
 refine run_pu rfl (lenImm_step (m := 0) hG rfl rfl rfl rfl rfl) rfl (ltb rfl) ?_
 refine mvL rfl rfl rfl rfl (ltb rfl) ?_
 refine run_ops_nil ?_
 refine run_block ?_
 refine run_rounds (fun m σ => ∃ (tki_turned__nk_fn_i_lift_c1vv_L1 : Nat), tk ≤ tki_turned__nk_fn_i_lift_c1vv_L1 ∧ i_turned__nk_fn_i_lift_c1vv_L1 (T.mk k1 n1 s1 []) i2 i3 i4 m  = some r ∧ σ = ⟨[(1, .int .i64 i2), (2, .fn (.func 91) [] [.optr (.bor 0) 0 0, .optr (.bor 1) 0 0]), (3, .optr (.loc 3) 0 0), (6, .optr (.loc 6) 0 0), (7, .imm 0 4 true []), (12, .imm 0 4 true []), (13, .int .i64 0), (14, .int .i64 0)], [(6, ⟨25, 4, true, [[.int .i64 0, .int .i64 0, .str ⟨#[]⟩, .imm 0 4 true []]]⟩), (3, ⟨25, 4, true, [[.int .i64 k1, .int .i64 n1, .str s1, .imm 0 4 true []]]⟩)], [⟨3, 1, true, [[.int .i64 i3]]⟩, ⟨3, 1, true, [[.int .i64 i4]]⟩], O, tki_turned__nk_fn_i_lift_c1vv_L1⟩) n (Sub.env [(1, .int .i64 i2), (2, .fn (.func 91) [] [.optr (.bor 0) 0 0, .optr (.bor 1) 0 0]), (3, .optr (.loc 3) 0 0), (6, .optr (.loc 6) 0 0), (7, .imm 0 4 true []), (12, .imm 0 4 true []), (13, .int .i64 0), (14, .int .i64 0)] ⟨rfl, rfl, rfl, rfl, rfl, rfl, rfl, rfl, trivial⟩) ⟨tk, Nat.le_refl _, hM, rfl⟩ (fun m σ hI => ?_)
 clear hM
 obtain ⟨tki_turned__nk_fn_i_lift_c1vv_L1, hle13, hM, rfl⟩ := hI
 obtain _ | m := m
 ·exact absurd hM (by rw [i_turned__nk_fn_i_lift_c1vv_L1]; exact fun h => by cases h)
 rw [i_turned__nk_fn_i_lift_c1vv_L1] at hM
 refine run_sr ?_
 refine run_bin rfl rfl rfl rfl rfl rfl rfl (ltb rfl) ?_
 refine run_ops_nil ?_
 refine run_seq ?_
 refine run_if rfl rfl (fun h => by cases h) (fun _ => ?_)
 refine run_exit_to rfl ?_
 refine run_sr ?_
 refine mvL rfl rfl rfl rfl (ltb rfl) ?_
 refine run_pu rfl (fieldAddr_step hG rfl rfl rfl rfl rfl) rfl (ltb rfl) ?_
 refine run_op0 rfl (store_step hG rfl rfl rfl rfl rfl rfl rfl rfl) rfl ?_
 refine run_ops_nil ?_
 refine run_seq ?_
 refine run_sr ?_
 refine run_pu rfl (fieldAddr_step hG rfl rfl rfl rfl rfl) rfl (ltb rfl) ?_
 refine run_ld hG rfl rfl rfl rfl rfl (ltb rfl) ?_
 refine run_bin rfl rfl rfl rfl rfl rfl rfl (ltb rfl) ?_
 refine run_ops_nil ?_
 refine run_ifd rfl rfl (fun hb5 => ?_) (fun hb5 => ?_)
 ·replace hM := ite_t hb5 hM
  refine run_sr ?_
  refine mvL rfl rfl rfl rfl (ltb rfl) ?_
  refine run_ld hG rfl rfl rfl rfl rfl (ltb rfl) ?_
  refine mvL rfl rfl rfl rfl (ltb rfl) ?_
  obtain ⟨r6, hg7, hM⟩ := bind_t hM
  refine run_call rfl rfl rfl (ltb rfl) rfl rfl rfl (fun _ h => absurd h List.not_mem_nil) (ACalls.args (args' := [.agg [.int .i64 k1, .int .i64 n1, .str s1, .imm 0 4 true []], .int .i64 i2, .optr (.bor 0) 0 0, .optr (.bor 1) 0 0]) rfl (i_lift_c1__nk_ok k1 n1 s1 i2 (.bor 0) i3 (.bor 1) i4 hg7 _ _ rfl rfl (by decide))) (callK_retX (fun v tk8 (hle9 : tki_turned__nk_fn_i_lift_c1vv_L1 ≤ tk8) h10 => ?_))
  obtain ⟨k11, n11, s11, rfl, rfl⟩ := h10
  refine run_op0 rfl (store_step hG rfl rfl rfl rfl rfl rfl rfl rfl) rfl ?_
  refine run_ops_nil ?_
  refine run_ret_to ?_
  obtain rfl := some_t hM
  refine fin_x hG rfl rfl rfl (v' := .agg [.int .i64 k11, .int .i64 n11, .str s11, .imm 0 4 true (cellss [])]) (by rfl) ⟨out_same (Bor.two hX0 rfl hX1 rfl hN01), (show tk ≤ tk8 by omega), _, rfl, ⟨k11, n11, s11, rfl, rfl⟩⟩
 ·replace hM := ite_f hb5 hM
  refine run_skip ?_
  refine run_sr ?_
  refine run_ld hG rfl rfl rfl rfl rfl (ltb rfl) ?_
  refine run_op0 rfl (store_step hG rfl rfl rfl rfl rfl rfl rfl rfl) rfl ?_
  refine run_ops_nil ?_
  refine run_ret_to ?_
  obtain rfl := some_t hM
  refine fin_x hG rfl rfl rfl (v' := .agg [.int .i64 k1, .int .i64 n1, .str s1, .imm 0 4 true (cellss [])]) (by rfl) ⟨out_same (Bor.two hX0 rfl hX1 rfl hN01), (show tk ≤ tki_turned__nk_fn_i_lift_c1vv_L1 by omega), _, rfl, ⟨k1, n1, s1, rfl, rfl⟩⟩

def i_lift__nk (n : Nat) (x1 : T) (i2 : Int) (i3 : Int) : Option T :=
 (i_turned__nk_fn_i_lift_c1vv n (T.mk x1.kind x1.n x1.name []) 0 i2 i3).bind fun r4 =>
 some (T.mk r4.kind r4.n r4.name [])

set_option maxRecDepth 100000 in
theorem i_lift__nk_ok (n : Nat) : ∀ (k1 : Int) (n1 : Int) (s1 : ByteArray) (i2 : Int) (i3 : Int) {r : T}, i_lift__nk n (T.mk k1 n1 s1 []) i2 i3 = some r → ∀ (O : Heap) (tk : Nat), ACalls Go.Proofs.Tryd.prog 36 [.agg [.int .i64 k1, .int .i64 n1, .str s1, .imm 0 4 true []], .int .i64 i2, .int .i64 i3] O tk (RetX O tk (fun v tk' => VL r v)) := by
 intro k1 n1 s1 i2 i3 r hM O tk
 unfold i_lift__nk at hM
 refine acalls_of_run Go.Proofs.Tryd.func36 rfl rfl [] [] (Bor.nil _) [(0, .agg [.int .i64 k1, .int .i64 n1, .str s1, .imm 0 4 true []]), (1, .int .i64 i2), (2, .int .i64 i3)] (.cons (.agg _) (.cons (entS rfl) (.cons (entS rfl) (.nil _)))) (leb rfl) (fun _ h => by cases h) (fun S0 hO htk hfz => ?_)
 refine run_sr ?_
 refine run_op rfl (box_step (d := 3) rfl rfl rfl rfl rfl) rfl (ltb rfl) ?_
 refine run_op rfl (box_step (d := 4) rfl rfl rfl rfl rfl) rfl (ltb rfl) ?_
 refine run_op rfl (box_step (d := 5) rfl rfl rfl rfl rfl) rfl (ltb rfl) ?_
 refine run_op rfl (alloc_step (d := 6) hG rfl rfl rfl) rfl (ltb rfl) ?_
 refine run_ops_nil ?_
 refine run_sr ?_
 refine run_ld hG rfl rfl rfl rfl rfl (ltb rfl) ?_
 refine run_pu rfl (makeFunc_step (first := []) (cap := [.tmp 4, .tmp 5]) rfl rfl rfl) rfl (ltb rfl) ?_
 obtain ⟨r4, hg5, hM⟩ := bind_t hM
 refine run_call rfl rfl rfl (ltb rfl) rfl rfl rfl (fun _ h => absurd h List.not_mem_nil) (ACalls.args (args' := [.agg [.int .i64 k1, .int .i64 n1, .str s1, .imm 0 4 true []], .int .i64 0, .fn (.func 91) [] [.optr (.loc 4) 0 0, .optr (.loc 5) 0 0]]) rfl (i_turned__nk_fn_i_lift_c1vv_ok n k1 n1 s1 0 (.loc 4) i2 (.loc 5) i3 hg5 _ _ rfl rfl (by decide))) (callK_retX (fun v tk6 (hle7 : tk ≤ tk6) h8 => ?_))
 obtain ⟨k9, n9, s9, rfl, rfl⟩ := h8
 refine run_op0 rfl (store_step hG rfl rfl rfl rfl rfl rfl rfl rfl) rfl ?_
 refine run_ops_nil ?_
 refine run_ret_to ?_
 obtain rfl := some_t hM
 refine fin_x hG rfl rfl rfl (v' := .agg [.int .i64 k9, .int .i64 n9, .str s9, .imm 0 4 true (cellss [])]) (by rfl) ⟨rfl, (show tk ≤ tk6 by omega), _, rfl, ⟨k9, n9, s9, rfl, rfl⟩⟩

def i_longForm__nk_L2 (r3 : (List T × T)) : Nat → Int → Int → Int → ByteArray → List T → Option T
 | 0, _, _, _, _, _ => none
 | m + 1, i56, i57, i58, t59, l60 =>
  if i56 < ((r3.1).length : Int) then
   i_longForm__nk_L2 r3 m (IntKind.i64.wrap (i56 + 1)) 4 0 (⟨#[]⟩) ([(T.mk i57 i58 t59 l60)])
  else
   some (T.mk i57 i58 t59 l60)

def i_longForm__nk_L1 (rec_i_longForm__nk : T → T → Option T) (n : Nat) (r3 : (List T × T)) (r16 : T) : Nat → Int → List T → Option T
 | 0, _, _ => none
 | m + 1, i23, l24 =>
  if i23 < ((r3.1).length : Int) then
   (idx r3.1 i23).bind fun y26 =>
   (rec_i_longForm__nk (T.mk 5 (IntKind.i64.wrap ((IntKind.i64.wrap (((r3.1).length : Int) - 1)) - i23)) (⟨#[]⟩) []) y26).bind fun r31 =>
   chk ((l24).length + ([r31]).length ≤ 1099511627776) <|
   i_longForm__nk_L1 rec_i_longForm__nk n r3 r16 m (IntKind.i64.wrap (i23 + 1)) (l24 ++ [r31])
  else
   i_longForm__nk_L2 r3 n 0 r16.kind r16.n r16.name l24

def i_longForm__nk : Nat → T → T → Option T
 | 0, _, _ => none
 | n + 1, x1, x2 =>
  (i_takes n x2).bind fun r3 =>
  (i_lift__nk n (T.mk x1.kind x1.n x1.name []) 0 ((r3.1).length : Int)).bind fun r16 =>
  if 0 < ((r3.1).length : Int) then
   (idx r3.1 0).bind fun y64 =>
   (i_longForm__nk n (T.mk 5 (IntKind.i64.wrap ((IntKind.i64.wrap (((r3.1).length : Int) - 1)) - 0)) (⟨#[]⟩) []) y64).bind fun r69 =>
   chk ((([] : List T)).length + ([r69]).length ≤ 1099511627776) <|
   i_longForm__nk_L1 (i_longForm__nk n) n r3 r16 n (IntKind.i64.wrap (0 + 1)) (([] : List T) ++ [r69])
  else
   if 0 < ((r3.1).length : Int) then
    i_longForm__nk_L2 r3 n (IntKind.i64.wrap (0 + 1)) 4 0 (⟨#[]⟩) ([(T.mk r16.kind r16.n r16.name [])])
   else
    some (T.mk r16.kind r16.n r16.name [])

set_option maxHeartbeats 2000000 in
set_option maxRecDepth 100000 in
theorem i_longForm__nk_st (n : Nat) (ih_i_longForm__nk : ∀ (k1 : Int) (n1 : Int) (s1 : ByteArray) (k2 : Int) (n2 : Int) (s2 : ByteArray) (q2 : Nat) (f2 : Bool) (ks2 : List LT) {r : T}, i_longForm__nk n (T.mk k1 n1 s1 []) (T.mk k2 n2 s2 (ers ks2)) = some r → ∀ (O : Heap) (tk : Nat), ACalls Go.Proofs.Tryd.prog 119 [.agg [.int .i64 k1, .int .i64 n1, .str s1, .imm 0 4 true []], .agg [.int .i64 k2, .int .i64 n2, .str s2, .imm q2 4 f2 (cellss ks2)]] O tk (RetX O tk (fun v tk' => VT false tk tk' r v))) : ∀ (k1 : Int) (n1 : Int) (s1 : ByteArray) (k2 : Int) (n2 : Int) (s2 : ByteArray) (q2 : Nat) (f2 : Bool) (ks2 : List LT) {r : T}, i_longForm__nk (n + 1) (T.mk k1 n1 s1 []) (T.mk k2 n2 s2 (ers ks2)) = some r → ∀ (O : Heap) (tk : Nat), ACalls Go.Proofs.Tryd.prog 119 [.agg [.int .i64 k1, .int .i64 n1, .str s1, .imm 0 4 true []], .agg [.int .i64 k2, .int .i64 n2, .str s2, .imm q2 4 f2 (cellss ks2)]] O tk (RetX O tk (fun v tk' => VT false tk tk' r v)) := by
 intro k1 n1 s1 k2 n2 s2 q2 f2 ks2 r hM O tk
 rw [i_longForm__nk] at hM
 refine acalls_of_run Go.Proofs.Tryd.func119 rfl rfl [] [] (Bor.nil _) [(0, .agg [.int .i64 k1, .int .i64 n1, .str s1, .imm 0 4 true []]), (1, .agg [.int .i64 k2, .int .i64 n2, .str s2, .imm q2 4 f2 (cellss ks2)])] (.cons (.agg _) (.cons (.agg _) (.nil _))) (leb rfl) (fun _ h => by cases h) (fun S0 hO htk hfz => ?_)
 refine run_sr ?_
 refine run_op rfl (box_step (d := 2) rfl rfl rfl rfl rfl) rfl (ltb rfl) ?_
 refine run_op rfl (box_step (d := 3) rfl rfl rfl rfl rfl) rfl (ltb rfl) ?_
 refine run_op rfl (alloc_step (d := 4) hG rfl rfl rfl) rfl (ltb rfl) ?_
 refine run_ops_nil ?_
 refine run_sr ?_
 refine run_ld hG rfl rfl rfl rfl rfl (ltb rfl) ?_
 obtain ⟨r3, hg4, hM⟩ := bind_t hM
 refine run_call rfl rfl rfl (ltb rfl) rfl rfl rfl (fun _ h => absurd h List.not_mem_nil) (i_takes_ok n k2 n2 s2 q2 f2 ks2 hg4 _ _) (callK_retX (fun v tk5 (hle6 : tk ≤ tk5) h7 => ?_))
 obtain ⟨ra12, ra13, va14, va15, rfl, rfl, ⟨q8, f8, ks8, rfl, rfl, hf9⟩, ⟨k10, n10, s10, q10, f10, ks10, rfl, rfl, hf11⟩⟩ := h7
 refine mvL rfl rfl rfl rfl (ltb rfl) ?_
 refine run_pu rfl (extract_step rfl rfl rfl) rfl (ltb rfl) ?_
 refine run_pu rfl (extract_step rfl rfl rfl) rfl (ltb rfl) ?_
 refine run_op rfl (alloc_step (d := 6) hG rfl rfl rfl) rfl (ltb rfl) ?_
 refine mvR rfl rfl rfl rfl (ltb rfl) ?_
 refine run_op0 rfl (store_step hG rfl rfl rfl rfl rfl rfl rfl rfl) rfl ?_
 refine run_ops_nil ?_
 refine run_sr ?_
 refine mvL rfl rfl rfl rfl (ltb rfl) ?_
 refine run_pu rfl (lenImm_step hG rfl rfl rfl rfl (tlen _)) rfl (ltb rfl) ?_
 refine mvR rfl rfl rfl rfl (ltb rfl) ?_
 refine run_ops_nil ?_
 refine run_sub_code (σ' := ⟨[(2, .optr (.loc 2) 0 0), (4, .optr (.loc 4) 0 0), (5, .imm q8 4 f8 (cellss ks8)), (7, .int .i64 (((ers ks8)).length : Int))], [(4, ⟨25, 4, true, [[.int .i64 0, .int .i64 0, .str ⟨#[]⟩, .imm 0 4 true []]]⟩), (2, ⟨25, 4, true, [[.int .i64 k1, .int .i64 n1, .str s1, .imm 0 4 true []]]⟩)], [], O, tk5⟩) (Sub.trans (Sub.drop (k := 6) rfl) (Sub.trans (Sub.drop (k := 3) rfl) (Sub.env _ ⟨rfl, rfl, rfl, rfl, trivial⟩))) ?_
 refine run_sr ?_
 refine run_ld hG rfl rfl rfl rfl rfl (ltb rfl) ?_
 refine mvL rfl rfl rfl rfl (ltb rfl) ?_
 obtain ⟨r16, hg17, hM⟩ := bind_t hM
 refine run_call rfl rfl rfl (ltb rfl) rfl rfl rfl (fun _ h => absurd h List.not_mem_nil) (ACalls.args (args' := [.agg [.int .i64 k1, .int .i64 n1, .str s1, .imm 0 4 true []], .int .i64 0, .int .i64 (((ers ks8)).length : Int)]) rfl (i_lift__nk_ok n k1 n1 s1 0 (((ers ks8)).length : Int) hg17 _ _)) (callK_retX (fun v tk18 (hle19 : tk5 ≤ tk18) h20 => ?_))
 obtain ⟨k21, n21, s21, rfl, rfl⟩ := h20
 refine run_op rfl (alloc_step (d := 8) hG rfl rfl rfl) rfl (ltb rfl) ?_
 refine run_op0 rfl (store_step hG rfl rfl rfl rfl rfl rfl rfl rfl) rfl ?_
 refine run_ops_nil ?_
 refine run_seq ?_
 refine run_sr ?_
 refine mvL rfl rfl rfl rfl (ltb rfl) ?_
 refine run_pu rfl (lenImm_step hG rfl rfl rfl rfl (tlen _)) rfl (ltb rfl) ?_
 refine mvL rfl rfl rfl rfl (ltb rfl) ?_
 refine run_ops_nil ?_
 refine run_block ?_
 refine run_peel (fun m σ => ∃ (i23 : Int) (ks24 : List LT) (tki_longForm__nk_L1 : Nat), tk18 ≤ tki_longForm__nk_L1 ∧ i_longForm__nk_L1 (i_longForm__nk n) n ((ers ks8), (T.mk k10 n10 s10 (ers ks10))) (T.mk k21 n21 s21 []) m i23 (ers ks24) = some r ∧ σ = ⟨[(4, .optr (.loc 4) 0 0), (7, .int .i64 (((ers ks8)).length : Int)), (8, .optr (.loc 8) 0 0), (21, .imm q8 4 f8 (cellss ks8)), (22, .int .i64 (((ers ks8)).length : Int)), (23, .int .i64 i23)], [(38, ⟨25, 4, false, cellss ks24⟩), (8, ⟨25, 4, true, [[.int .i64 k21, .int .i64 n21, .str s21, .osl (.loc 38)]]⟩), (4, ⟨25, 4, true, [[.int .i64 0, .int .i64 0, .str ⟨#[]⟩, .imm 0 4 true []]]⟩)], [], O, tki_longForm__nk_L1⟩) n ?_ (fun m σ hI => ?_)
 ·refine run_sr ?_
  refine run_bin rfl rfl rfl rfl rfl rfl rfl (ltb rfl) ?_
  refine run_ops_nil ?_
  refine run_seq ?_
  refine run_ifd rfl rfl (fun hb63 => ?_) (fun hb63 => ?_)
  ·replace hM := ite_t hb63 hM
   refine run_skip ?_
   refine run_seq ?_
   refine run_block ?_
   refine run_sr ?_
   refine mvL rfl rfl rfl rfl (ltb rfl) ?_
   obtain ⟨y64, hy65, hM⟩ := bind_t hM
   obtain ⟨k66, n66, s66, q66, f66, ks66, rfl, hc67, hi68⟩ := tidx (ks := ks8) hy65
   refine run_pu rfl (indexImm_step hG rfl rfl rfl hi68 rfl rfl rfl rfl hc67) rfl (ltb rfl) ?_
   refine run_ld hG rfl rfl rfl rfl rfl (ltb rfl) ?_
   refine run_op rfl (alloc_step (d := 10) hG rfl rfl rfl) rfl (ltb rfl) ?_
   refine mvR rfl rfl rfl rfl (ltb rfl) ?_
   refine run_op0 rfl (store_step hG rfl rfl rfl rfl rfl rfl rfl rfl) rfl ?_
   refine run_ops_nil ?_
   refine run_sub_code (σ' := ⟨[(4, .optr (.loc 4) 0 0), (7, .int .i64 (((ers ks8)).length : Int)), (8, .optr (.loc 8) 0 0), (21, .imm q8 4 f8 (cellss ks8)), (22, .int .i64 (((ers ks8)).length : Int)), (23, .int .i64 0), (10, .optr (.loc 10) 0 0), (9, .int .i64 0)], [(10, ⟨25, 4, true, [[.int .i64 k66, .int .i64 n66, .str s66, .imm q66 4 f66 (cellss ks66)]]⟩), (8, ⟨25, 4, true, [[.int .i64 k21, .int .i64 n21, .str s21, .imm 0 4 true []]]⟩), (4, ⟨25, 4, true, [[.int .i64 0, .int .i64 0, .str ⟨#[]⟩, .imm 0 4 true []]]⟩)], [], O, tk18⟩) (Sub.trans (Sub.drop (k := 2) rfl) (Sub.env _ ⟨rfl, rfl, rfl, rfl, rfl, rfl, rfl, rfl, trivial⟩)) ?_
   refine run_draw [.loc 8] (n := 13) mixed rfl (by intro x hx; simp only [List.mem_cons, List.not_mem_nil, or_false] at hx; rcases hx with rfl <;> rfl) ?_
   refine AAny.take (i := 0) rfl (by kernel_rfl) (by kernel_rfl) (by kernel_rfl) rfl rfl (ltb rfl) ((fieldAddr_step hG rfl rfl rfl rfl rfl).rd _) ?_
   refine AAny.take (i := 2) rfl (by kernel_rfl) (by kernel_rfl) (by kernel_rfl) rfl rfl (ltb rfl) ((move_step (.inl rfl) rfl).rd _) ?_
   refine AAny.take (i := 3) rfl (by kernel_rfl) (by kernel_rfl) (by kernel_rfl) rfl rfl (ltb rfl) ((abin_step rfl rfl rfl rfl (fun _ h => by cases h)).rd _) ?_
   refine AAny.take (i := 4) rfl (by kernel_rfl) (by kernel_rfl) (by kernel_rfl) rfl rfl (ltb rfl) ((move_step (.inl rfl) rfl).rd _) ?_
   refine AAny.take (i := 5) rfl (by kernel_rfl) (by kernel_rfl) (by kernel_rfl) rfl rfl (ltb rfl) ((abin_step rfl rfl rfl rfl (fun _ h => by cases h)).rd _) ?_
   refine AAny.take (i := 7) rfl (by kernel_rfl) (by kernel_rfl) (by kernel_rfl) rfl rfl (ltb rfl) (aload_rd hG rfl rfl rfl (by first | (simp [ldok]; done) | exact List.not_mem_nil | trivial)) ?_
   refine AAny.each (rs := [1, 6]) (by kernel_rfl) (fun h => by cases h) (fun i hi => ?_)
   simp only [List.mem_cons, List.not_mem_nil, or_false] at hi
   rcases hi with rfl | rfl
   ·refine AOp.rd rfl rfl rfl (ltb rfl) (aload_rd hG rfl rfl rfl (by first | (simp [ldok]; done) | exact List.not_mem_nil | trivial)) ?_
    refine AAny.one (i := 6) (by kernel_rfl) (AOp.call rfl rfl rfl rfl (ltb rfl) rfl rfl rfl (fun _ h => absurd h List.not_mem_nil) (fun _ h => absurd h List.not_mem_nil) (ACalls.args (args' := [.int .i64 (IntKind.i64.wrap ((IntKind.i64.wrap ((((ers ks8)).length : Int) - 1)) - 0)), .imm 0 4 true (cellss [])]) rfl (i_variable_ex (IntKind.i64.wrap ((IntKind.i64.wrap ((((ers ks8)).length : Int) - 1)) - 0)) 0 true [] _ _)) (callK_retN ?_))
    skip
    obtain ⟨r69, hg70, hM⟩ := bind_t hM
    refine AAny.one (i := 8) (by kernel_rfl) (AOp.call rfl rfl rfl rfl (ltb rfl) rfl rfl rfl (fun _ h => absurd h List.not_mem_nil) (fun _ h => absurd h List.not_mem_nil) (ACalls.args (args' := [.agg [.int .i64 5, .int .i64 (IntKind.i64.wrap ((IntKind.i64.wrap ((((ers ks8)).length : Int) - 1)) - 0)), .str ⟨#[]⟩, .imm 0 4 true []], .agg [.int .i64 k66, .int .i64 n66, .str s66, .imm q66 4 f66 (cellss ks66)]]) rfl (ih_i_longForm__nk 5 (IntKind.i64.wrap ((IntKind.i64.wrap ((((ers ks8)).length : Int) - 1)) - 0)) ⟨#[]⟩ k66 n66 s66 q66 f66 ks66 hg70 _ _)) (callK_retX (fun v tk71 (hle72 : tk18 ≤ tk71) h73 => ?_)))
    obtain ⟨k74, n74, s74, q74, f74, ks74, rfl, rfl, hf75⟩ := h73
    refine AAny.one (i := 9) (by kernel_rfl) (AOp.step rfl rfl rfl (ltb rfl) (buildSlice_step (d := 37) hG rfl rfl rfl rfl rfl (by rfl) (by rfl) (by rfl) (by decide)) (fun _ h => absurd h List.not_mem_nil) ?_)
    obtain ⟨hc76, hM⟩ := chk_t hM
    try rw [show ((ers ([] : List LT)) ++ [(T.mk k74 n74 s74 (ers ks74))] : List T) = (ers (([] : List LT) ++ [LT.mk k74 n74 s74 q74 f74 ks74])) from ers_app ([] : List LT) [LT.mk k74 n74 s74 q74 f74 ks74]] at hM
    refine AAny.one (i := 10) (by kernel_rfl) (AOp.step rfl rfl rfl (ltb rfl) (appendFM_step (d := 38) hG rfl rfl rfl rfl rfl rfl rfl (cellss_sz ([] : List LT)) rfl (cellss_sz ([LT.mk k74 n74 s74 q74 f74 ks74])) (tlen ([] : List LT)) (tlen ([LT.mk k74 n74 s74 q74 f74 ks74])) (by simp [ers]) hc76 (by decide) (cellss_app _ _)) (fun _ h => absurd h List.not_mem_nil) ?_)
    refine AAny.take (i := 11) rfl (by kernel_rfl) (by kernel_rfl) (by kernel_rfl) rfl rfl (ltb rfl) ((fieldAddr_step hG rfl rfl rfl rfl rfl).rd _) ?_
    refine AAny.one (i := 12) (by kernel_rfl) (AOp.step0 rfl rfl rfl (store_step hG rfl rfl rfl rfl rfl rfl rfl rfl) (by intro x hx; exact hx) ?_)
    refine AAny.done (by kernel_rfl) ?_
    refine run_blk ?_
    refine run_region ?_
    refine run_bin rfl rfl rfl rfl rfl rfl rfl (ltb rfl) ?_
    refine mvL rfl rfl rfl rfl (ltb rfl) ?_
    refine run_ops_nil ?_
    exact run_loop_end ⟨n, _, Nat.le_refl _, ⟨(IntKind.i64.wrap (0 + 1)), (([] : List LT) ++ [LT.mk k74 n74 s74 q74 f74 ks74]), tk71, (show tk18 ≤ tk71 by omega), hM, rfl⟩, Sub.trans (Sub.drop (k := 37) rfl) (Sub.trans (Sub.drop (k := 10) rfl) (Sub.env [(4, .optr (.loc 4) 0 0), (7, .int .i64 (((ers ks8)).length : Int)), (8, .optr (.loc 8) 0 0), (21, .imm q8 4 f8 (cellss ks8)), (22, .int .i64 (((ers ks8)).length : Int)), (23, .int .i64 (IntKind.i64.wrap (0 + 1)))] ⟨rfl, rfl, rfl, rfl, rfl, rfl, trivial⟩))⟩
   ·refine AOp.call rfl rfl rfl rfl (ltb rfl) rfl rfl rfl (fun _ h => absurd h List.not_mem_nil) (fun _ h => absurd h List.not_mem_nil) (ACalls.args (args' := [.int .i64 (IntKind.i64.wrap ((IntKind.i64.wrap ((((ers ks8)).length : Int) - 1)) - 0)), .imm 0 4 true (cellss [])]) rfl (i_variable_ex (IntKind.i64.wrap ((IntKind.i64.wrap ((((ers ks8)).length : Int) - 1)) - 0)) 0 true [] _ _)) (callK_retN ?_)
    skip
    refine AAny.each (rs := [1, 8]) (by kernel_rfl) (fun h => by cases h) (fun i hi => ?_)
    simp only [List.mem_cons, List.not_mem_nil, or_false] at hi
    rcases hi with rfl | rfl
    ·refine AOp.rd rfl rfl rfl (ltb rfl) (aload_rd hG rfl rfl rfl (by first | (simp [ldok]; done) | exact List.not_mem_nil | trivial)) ?_
     obtain ⟨r77, hg78, hM⟩ := bind_t hM
     refine AAny.one (i := 8) (by kernel_rfl) (AOp.call rfl rfl rfl rfl (ltb rfl) rfl rfl rfl (fun _ h => absurd h List.not_mem_nil) (fun _ h => absurd h List.not_mem_nil) (ACalls.args (args' := [.agg [.int .i64 5, .int .i64 (IntKind.i64.wrap ((IntKind.i64.wrap ((((ers ks8)).length : Int) - 1)) - 0)), .str ⟨#[]⟩, .imm 0 4 true []], .agg [.int .i64 k66, .int .i64 n66, .str s66, .imm q66 4 f66 (cellss ks66)]]) rfl (ih_i_longForm__nk 5 (IntKind.i64.wrap ((IntKind.i64.wrap ((((ers ks8)).length : Int) - 1)) - 0)) ⟨#[]⟩ k66 n66 s66 q66 f66 ks66 hg78 _ _)) (callK_retX (fun v tk79 (hle80 : tk18 ≤ tk79) h81 => ?_)))
     obtain ⟨k82, n82, s82, q82, f82, ks82, rfl, rfl, hf83⟩ := h81
     refine AAny.one (i := 9) (by kernel_rfl) (AOp.step rfl rfl rfl (ltb rfl) (buildSlice_step (d := 37) hG rfl rfl rfl rfl rfl (by rfl) (by rfl) (by rfl) (by decide)) (fun _ h => absurd h List.not_mem_nil) ?_)
     obtain ⟨hc84, hM⟩ := chk_t hM
     try rw [show ((ers ([] : List LT)) ++ [(T.mk k82 n82 s82 (ers ks82))] : List T) = (ers (([] : List LT) ++ [LT.mk k82 n82 s82 q82 f82 ks82])) from ers_app ([] : List LT) [LT.mk k82 n82 s82 q82 f82 ks82]] at hM
     refine AAny.one (i := 10) (by kernel_rfl) (AOp.step rfl rfl rfl (ltb rfl) (appendFM_step (d := 38) hG rfl rfl rfl rfl rfl rfl rfl (cellss_sz ([] : List LT)) rfl (cellss_sz ([LT.mk k82 n82 s82 q82 f82 ks82])) (tlen ([] : List LT)) (tlen ([LT.mk k82 n82 s82 q82 f82 ks82])) (by simp [ers]) hc84 (by decide) (cellss_app _ _)) (fun _ h => absurd h List.not_mem_nil) ?_)
     refine AAny.take (i := 11) rfl (by kernel_rfl) (by kernel_rfl) (by kernel_rfl) rfl rfl (ltb rfl) ((fieldAddr_step hG rfl rfl rfl rfl rfl).rd _) ?_
     refine AAny.one (i := 12) (by kernel_rfl) (AOp.step0 rfl rfl rfl (store_step hG rfl rfl rfl rfl rfl rfl rfl rfl) (by intro x hx; exact hx) ?_)
     refine AAny.done (by kernel_rfl) ?_
     refine run_blk ?_
     refine run_region ?_
     refine run_bin rfl rfl rfl rfl rfl rfl rfl (ltb rfl) ?_
     refine mvL rfl rfl rfl rfl (ltb rfl) ?_
     refine run_ops_nil ?_
     exact run_loop_end ⟨n, _, Nat.le_refl _, ⟨(IntKind.i64.wrap (0 + 1)), (([] : List LT) ++ [LT.mk k82 n82 s82 q82 f82 ks82]), tk79, (show tk18 ≤ tk79 by omega), hM, rfl⟩, Sub.trans (Sub.drop (k := 37) rfl) (Sub.trans (Sub.drop (k := 10) rfl) (Sub.env [(4, .optr (.loc 4) 0 0), (7, .int .i64 (((ers ks8)).length : Int)), (8, .optr (.loc 8) 0 0), (21, .imm q8 4 f8 (cellss ks8)), (22, .int .i64 (((ers ks8)).length : Int)), (23, .int .i64 (IntKind.i64.wrap (0 + 1)))] ⟨rfl, rfl, rfl, rfl, rfl, rfl, trivial⟩))⟩
    ·obtain ⟨r85, hg86, hM⟩ := bind_t hM
     refine AOp.call rfl rfl rfl rfl (ltb rfl) rfl rfl rfl (fun _ h => absurd h List.not_mem_nil) (fun _ h => absurd h List.not_mem_nil) (ACalls.args (args' := [.agg [.int .i64 5, .int .i64 (IntKind.i64.wrap ((IntKind.i64.wrap ((((ers ks8)).length : Int) - 1)) - 0)), .str ⟨#[]⟩, .imm 0 4 true []], .agg [.int .i64 k66, .int .i64 n66, .str s66, .imm q66 4 f66 (cellss ks66)]]) rfl (ih_i_longForm__nk 5 (IntKind.i64.wrap ((IntKind.i64.wrap ((((ers ks8)).length : Int) - 1)) - 0)) ⟨#[]⟩ k66 n66 s66 q66 f66 ks66 hg86 _ _)) (callK_retX (fun v tk87 (hle88 : tk18 ≤ tk87) h89 => ?_))
     obtain ⟨k90, n90, s90, q90, f90, ks90, rfl, rfl, hf91⟩ := h89
     refine AAny.each (rs := [1, 9]) (by kernel_rfl) (fun h => by cases h) (fun i hi => ?_)
     simp only [List.mem_cons, List.not_mem_nil, or_false] at hi
     rcases hi with rfl | rfl
     ·refine AOp.rd rfl rfl rfl (ltb rfl) (aload_rd hG rfl rfl rfl (by first | (simp [ldok]; done) | exact List.not_mem_nil | trivial)) ?_
      refine AAny.one (i := 9) (by kernel_rfl) (AOp.step rfl rfl rfl (ltb rfl) (buildSlice_step (d := 37) hG rfl rfl rfl rfl rfl (by rfl) (by rfl) (by rfl) (by decide)) (fun _ h => absurd h List.not_mem_nil) ?_)
      obtain ⟨hc92, hM⟩ := chk_t hM
      try rw [show ((ers ([] : List LT)) ++ [(T.mk k90 n90 s90 (ers ks90))] : List T) = (ers (([] : List LT) ++ [LT.mk k90 n90 s90 q90 f90 ks90])) from ers_app ([] : List LT) [LT.mk k90 n90 s90 q90 f90 ks90]] at hM
      refine AAny.one (i := 10) (by kernel_rfl) (AOp.step rfl rfl rfl (ltb rfl) (appendFM_step (d := 38) hG rfl rfl rfl rfl rfl rfl rfl (cellss_sz ([] : List LT)) rfl (cellss_sz ([LT.mk k90 n90 s90 q90 f90 ks90])) (tlen ([] : List LT)) (tlen ([LT.mk k90 n90 s90 q90 f90 ks90])) (by simp [ers]) hc92 (by decide) (cellss_app _ _)) (fun _ h => absurd h List.not_mem_nil) ?_)
      refine AAny.take (i := 11) rfl (by kernel_rfl) (by kernel_rfl) (by kernel_rfl) rfl rfl (ltb rfl) ((fieldAddr_step hG rfl rfl rfl rfl rfl).rd _) ?_
      refine AAny.one (i := 12) (by kernel_rfl) (AOp.step0 rfl rfl rfl (store_step hG rfl rfl rfl rfl rfl rfl rfl rfl) (by intro x hx; exact hx) ?_)
      refine AAny.done (by kernel_rfl) ?_
      refine run_blk ?_
      refine run_region ?_
      refine run_bin rfl rfl rfl rfl rfl rfl rfl (ltb rfl) ?_
      refine mvL rfl rfl rfl rfl (ltb rfl) ?_
      refine run_ops_nil ?_
      exact run_loop_end ⟨n, _, Nat.le_refl _, ⟨(IntKind.i64.wrap (0 + 1)), (([] : List LT) ++ [LT.mk k90 n90 s90 q90 f90 ks90]), tk87, (show tk18 ≤ tk87 by omega), hM, rfl⟩, Sub.trans (Sub.drop (k := 37) rfl) (Sub.trans (Sub.drop (k := 10) rfl) (Sub.env [(4, .optr (.loc 4) 0 0), (7, .int .i64 (((ers ks8)).length : Int)), (8, .optr (.loc 8) 0 0), (21, .imm q8 4 f8 (cellss ks8)), (22, .int .i64 (((ers ks8)).length : Int)), (23, .int .i64 (IntKind.i64.wrap (0 + 1)))] ⟨rfl, rfl, rfl, rfl, rfl, rfl, trivial⟩))⟩
     ·refine AOp.step rfl rfl rfl (ltb rfl) (buildSlice_step (d := 37) hG rfl rfl rfl rfl rfl (by rfl) (by rfl) (by rfl) (by decide)) (fun _ h => absurd h List.not_mem_nil) ?_
      refine AAny.one (i := 1) (by kernel_rfl) (AOp.rd rfl rfl rfl (ltb rfl) (aload_rd hG rfl rfl rfl (by first | (simp [ldok]; done) | exact List.not_mem_nil | trivial)) ?_)
      obtain ⟨hc93, hM⟩ := chk_t hM
      try rw [show ((ers ([] : List LT)) ++ [(T.mk k90 n90 s90 (ers ks90))] : List T) = (ers (([] : List LT) ++ [LT.mk k90 n90 s90 q90 f90 ks90])) from ers_app ([] : List LT) [LT.mk k90 n90 s90 q90 f90 ks90]] at hM
      refine AAny.one (i := 10) (by kernel_rfl) (AOp.step rfl rfl rfl (ltb rfl) (appendFM_step (d := 38) hG rfl rfl rfl rfl rfl rfl rfl (cellss_sz ([] : List LT)) rfl (cellss_sz ([LT.mk k90 n90 s90 q90 f90 ks90])) (tlen ([] : List LT)) (tlen ([LT.mk k90 n90 s90 q90 f90 ks90])) (by simp [ers]) hc93 (by decide) (cellss_app _ _)) (fun _ h => absurd h List.not_mem_nil) ?_)
      refine AAny.take (i := 11) rfl (by kernel_rfl) (by kernel_rfl) (by kernel_rfl) rfl rfl (ltb rfl) ((fieldAddr_step hG rfl rfl rfl rfl rfl).rd _) ?_
      refine AAny.one (i := 12) (by kernel_rfl) (AOp.step0 rfl rfl rfl (store_step hG rfl rfl rfl rfl rfl rfl rfl rfl) (by intro x hx; exact hx) ?_)
      refine AAny.done (by kernel_rfl) ?_
      refine run_blk ?_
      refine run_region ?_
      refine run_bin rfl rfl rfl rfl rfl rfl rfl (ltb rfl) ?_
      refine mvL rfl rfl rfl rfl (ltb rfl) ?_
      refine run_ops_nil ?_
      exact run_loop_end ⟨n, _, Nat.le_refl _, ⟨(IntKind.i64.wrap (0 + 1)), (([] : List LT) ++ [LT.mk k90 n90 s90 q90 f90 ks90]), tk87, (show tk18 ≤ tk87 by omega), hM, rfl⟩, Sub.trans (Sub.drop (k := 37) rfl) (Sub.trans (Sub.drop (k := 10) rfl) (Sub.env [(4, .optr (.loc 4) 0 0), (7, .int .i64 (((ers ks8)).length : Int)), (8, .optr (.loc 8) 0 0), (21, .imm q8 4 f8 (cellss ks8)), (22, .int .i64 (((ers ks8)).length : Int)), (23, .int .i64 (IntKind.i64.wrap (0 + 1)))] ⟨rfl, rfl, rfl, rfl, rfl, rfl, trivial⟩))⟩
  ·replace hM := ite_f hb63 hM
   refine run_exit_to rfl ?_
   refine run_seq ?_
   refine run_sr ?_
   refine mvL rfl rfl rfl rfl (ltb rfl) ?_
   refine mvL rfl rfl rfl rfl (ltb rfl) ?_
   refine run_ops_nil ?_
   refine run_block ?_
   refine run_peel (fun m σ => ∃ (i94 : Int) (i95 : Int) (i96 : Int) (t97 : ByteArray) (q98 : Nat) (f98 : Bool) (ks98 : List LT) (tki_longForm__nk_L3 : Nat), tk18 ≤ tki_longForm__nk_L3 ∧ i_longForm__nk_L2 ((ers ks8), (T.mk k10 n10 s10 (ers ks10))) m i94 i95 i96 t97 (ers ks98) = some r ∧ σ = ⟨[(4, .optr (.loc 4) 0 0), (8, .optr (.loc 8) 0 0), (41, .int .i64 (((ers ks8)).length : Int)), (42, .int .i64 i94)], [(8, ⟨25, 4, true, [[.int .i64 i95, .int .i64 i96, .str t97, .imm q98 4 f98 (cellss ks98)]]⟩), (4, ⟨25, 4, true, [[.int .i64 0, .int .i64 0, .str ⟨#[]⟩, .imm 0 4 true []]]⟩)], [], O, tki_longForm__nk_L3⟩) n ?_ (fun m σ hI => ?_)
   ·refine run_sr ?_
    refine run_bin rfl rfl rfl rfl rfl rfl rfl (ltb rfl) ?_
    refine run_ops_nil ?_
    refine run_seq ?_
    refine run_ifd rfl rfl (fun hb100 => ?_) (fun hb100 => ?_)
    ·replace hM := ite_t hb100 hM
     refine run_skip ?_
     refine run_seq ?_
     refine run_block ?_
     refine run_region ?_
     refine run_ld hG rfl rfl rfl rfl rfl (ltb rfl) ?_
     refine run_call rfl rfl rfl (ltb rfl) rfl rfl rfl (fun _ h => absurd h List.not_mem_nil) (ACalls.args (args' := [.agg [.int .i64 k21, .int .i64 n21, .str s21, .imm 0 4 true (cellss [])]]) rfl (i_lam_ex k21 n21 s21 0 true [] _ _)) (callK_retN ?_)
     skip
     refine run_op0 rfl (store_step hG rfl rfl rfl rfl rfl rfl rfl rfl) rfl ?_
     refine run_ops_nil ?_
     refine run_blk ?_
     refine run_sub_code (σ' := ⟨[(4, .optr (.loc 4) 0 0), (8, .optr (.loc 8) 0 0), (41, .int .i64 (((ers ks8)).length : Int)), (42, .int .i64 0)], [(8, ⟨25, 4, true, [[.int .i64 4, .int .i64 0, .str ⟨#[]⟩, .imm tk18 4 false (cellss [LT.mk k21 n21 s21 0 true []])]]⟩), (4, ⟨25, 4, true, [[.int .i64 0, .int .i64 0, .str ⟨#[]⟩, .imm 0 4 true []]]⟩)], [], O, (tk18 + 1)⟩) (Sub.trans (Sub.drop (k := 2) rfl) (Sub.env _ ⟨rfl, rfl, rfl, rfl, trivial⟩)) ?_
     refine run_region ?_
     refine run_bin rfl rfl rfl rfl rfl rfl rfl (ltb rfl) ?_
     refine mvL rfl rfl rfl rfl (ltb rfl) ?_
     refine run_ops_nil ?_
     exact run_loop_end ⟨n, _, Nat.le_refl _, ⟨(IntKind.i64.wrap (0 + 1)), 4, 0, ⟨#[]⟩, tk18, false, [LT.mk k21 n21 s21 0 true []], (tk18 + 1), (show tk18 ≤ (tk18 + 1) by omega), hM, rfl⟩, Sub.env [(4, .optr (.loc 4) 0 0), (8, .optr (.loc 8) 0 0), (41, .int .i64 (((ers ks8)).length : Int)), (42, .int .i64 (IntKind.i64.wrap (0 + 1)))] ⟨rfl, rfl, rfl, rfl, trivial⟩⟩
    ·replace hM := ite_f hb100 hM
     refine run_exit_to rfl ?_
     refine run_sr ?_
     refine run_ld hG rfl rfl rfl rfl rfl (ltb rfl) ?_
     refine run_op0 rfl (store_step hG rfl rfl rfl rfl rfl rfl rfl rfl) rfl ?_
     refine run_ops_nil ?_
     refine run_ret_to ?_
     obtain rfl := some_t hM
     refine fin_x hG rfl rfl rfl (v' := .agg [.int .i64 k21, .int .i64 n21, .str s21, .imm 0 4 true (cellss [])]) (by rfl) ⟨rfl, (show tk ≤ tk18 by omega), _, rfl, ⟨k21, n21, s21, 0, true, [], rfl, rfl, fun h => by cases h⟩⟩
   ·clear hM
    obtain ⟨i94, i95, i96, t97, q98, f98, ks98, tki_longForm__nk_L3, hle101, hM, rfl⟩ := hI
    obtain _ | m := m
    ·exact absurd hM (by rw [i_longForm__nk_L2]; exact fun h => by cases h)
    rw [i_longForm__nk_L2] at hM
    refine run_sr ?_
    refine run_bin rfl rfl rfl rfl rfl rfl rfl (ltb rfl) ?_
    refine run_ops_nil ?_
    refine run_seq ?_
    refine run_ifd rfl rfl (fun hb99 => ?_) (fun hb99 => ?_)
    ·replace hM := ite_t hb99 hM
     refine run_skip ?_
     refine run_seq ?_
     refine run_block ?_
     refine run_region ?_
     refine run_ld hG rfl rfl rfl rfl rfl (ltb rfl) ?_
     refine run_call rfl rfl rfl (ltb rfl) rfl rfl rfl (fun _ h => absurd h List.not_mem_nil) (i_lam_ex i95 i96 t97 q98 f98 ks98 _ _) (callK_retN ?_)
     skip
     refine run_op0 rfl (store_step hG rfl rfl rfl rfl rfl rfl rfl rfl) rfl ?_
     refine run_ops_nil ?_
     refine run_blk ?_
     refine run_region ?_
     refine run_bin rfl rfl rfl rfl rfl rfl rfl (ltb rfl) ?_
     refine mvL rfl rfl rfl rfl (ltb rfl) ?_
     refine run_ops_nil ?_
     exact run_loop_end ⟨m, _, Nat.lt_succ_self _, ⟨(IntKind.i64.wrap (i94 + 1)), 4, 0, ⟨#[]⟩, tki_longForm__nk_L3, false, [LT.mk i95 i96 t97 q98 f98 ks98], (tki_longForm__nk_L3 + 1), (show tk18 ≤ (tki_longForm__nk_L3 + 1) by omega), hM, rfl⟩, Sub.env [(4, .optr (.loc 4) 0 0), (8, .optr (.loc 8) 0 0), (41, .int .i64 (((ers ks8)).length : Int)), (42, .int .i64 (IntKind.i64.wrap (i94 + 1)))] ⟨rfl, rfl, rfl, rfl, trivial⟩⟩
    ·replace hM := ite_f hb99 hM
     refine run_exit_to rfl ?_
     refine run_sr ?_
     refine run_ld hG rfl rfl rfl rfl rfl (ltb rfl) ?_
     refine run_op0 rfl (store_step hG rfl rfl rfl rfl rfl rfl rfl rfl) rfl ?_
     refine run_ops_nil ?_
     refine run_ret_to ?_
     obtain rfl := some_t hM
     refine fin_x hG rfl rfl rfl (v' := .agg [.int .i64 i95, .int .i64 i96, .str t97, .imm q98 4 f98 (cellss ks98)]) (by rfl) ⟨rfl, (show tk ≤ tki_longForm__nk_L3 by omega), _, rfl, ⟨i95, i96, t97, q98, f98, ks98, rfl, rfl, fun h => by cases h⟩⟩
 ·clear hM
  obtain ⟨i23, ks24, tki_longForm__nk_L1, hle102, hM, rfl⟩ := hI
  obtain _ | m := m
  ·exact absurd hM (by rw [i_longForm__nk_L1]; exact fun h => by cases h)
  rw [i_longForm__nk_L1] at hM
  refine run_sr ?_
  refine run_bin rfl rfl rfl rfl rfl rfl rfl (ltb rfl) ?_
  refine run_ops_nil ?_
  refine run_seq ?_
  refine run_ifd rfl rfl (fun hb25 => ?_) (fun hb25 => ?_)
  ·replace hM := ite_t hb25 hM
   refine run_skip ?_
   refine run_seq ?_
   refine run_block ?_
   refine run_sr ?_
   refine mvL rfl rfl rfl rfl (ltb rfl) ?_
   obtain ⟨y26, hy27, hM⟩ := bind_t hM
   obtain ⟨k28, n28, s28, q28, f28, ks28, rfl, hc29, hi30⟩ := tidx (ks := ks8) hy27
   refine run_pu rfl (indexImm_step hG rfl rfl rfl hi30 rfl rfl rfl rfl hc29) rfl (ltb rfl) ?_
   refine run_ld hG rfl rfl rfl rfl rfl (ltb rfl) ?_
   refine run_op rfl (alloc_step (d := 10) hG rfl rfl rfl) rfl (ltb rfl) ?_
   refine mvR rfl rfl rfl rfl (ltb rfl) ?_
   refine run_op0 rfl (store_step hG rfl rfl rfl rfl rfl rfl rfl rfl) rfl ?_
   refine run_ops_nil ?_
   refine run_draw [.loc 8, .loc 38] (n := 13) mixed rfl (by intro x hx; simp only [List.mem_cons, List.not_mem_nil, or_false] at hx; rcases hx with rfl | rfl <;> rfl) ?_
   refine AAny.take (i := 0) rfl (by kernel_rfl) (by kernel_rfl) (by kernel_rfl) rfl rfl (ltb rfl) ((fieldAddr_step hG rfl rfl rfl rfl rfl).rd _) ?_
   refine AAny.take (i := 2) rfl (by kernel_rfl) (by kernel_rfl) (by kernel_rfl) rfl rfl (ltb rfl) ((move_step (.inl rfl) rfl).rd _) ?_
   refine AAny.take (i := 3) rfl (by kernel_rfl) (by kernel_rfl) (by kernel_rfl) rfl rfl (ltb rfl) ((abin_step rfl rfl rfl rfl (fun _ h => by cases h)).rd _) ?_
   refine AAny.take (i := 4) rfl (by kernel_rfl) (by kernel_rfl) (by kernel_rfl) rfl rfl (ltb rfl) ((move_step (.inl rfl) rfl).rd _) ?_
   refine AAny.take (i := 5) rfl (by kernel_rfl) (by kernel_rfl) (by kernel_rfl) rfl rfl (ltb rfl) ((abin_step rfl rfl rfl rfl (fun _ h => by cases h)).rd _) ?_
   refine AAny.take (i := 7) rfl (by kernel_rfl) (by kernel_rfl) (by kernel_rfl) rfl rfl (ltb rfl) (aload_rd hG rfl rfl rfl (by first | (simp [ldok]; done) | exact List.not_mem_nil | trivial)) ?_
   refine AAny.each (rs := [1, 6]) (by kernel_rfl) (fun h => by cases h) (fun i hi => ?_)
   simp only [List.mem_cons, List.not_mem_nil, or_false] at hi
   rcases hi with rfl | rfl
   ·refine AOp.rd rfl rfl rfl (ltb rfl) (aload_rd hG rfl rfl rfl (by first | (simp [ldok]; done) | exact List.not_mem_nil | trivial)) ?_
    refine AAny.one (i := 6) (by kernel_rfl) (AOp.call rfl rfl rfl rfl (ltb rfl) rfl rfl rfl (fun _ h => absurd h List.not_mem_nil) (fun _ h => absurd h List.not_mem_nil) (ACalls.args (args' := [.int .i64 (IntKind.i64.wrap ((IntKind.i64.wrap ((((ers ks8)).length : Int) - 1)) - i23)), .imm 0 4 true (cellss [])]) rfl (i_variable_ex (IntKind.i64.wrap ((IntKind.i64.wrap ((((ers ks8)).length : Int) - 1)) - i23)) 0 true [] _ _)) (callK_retN ?_))
    skip
    obtain ⟨r31, hg32, hM⟩ := bind_t hM
    refine AAny.one (i := 8) (by kernel_rfl) (AOp.call rfl rfl rfl rfl (ltb rfl) rfl rfl rfl (fun _ h => absurd h List.not_mem_nil) (fun _ h => absurd h List.not_mem_nil) (ACalls.args (args' := [.agg [.int .i64 5, .int .i64 (IntKind.i64.wrap ((IntKind.i64.wrap ((((ers ks8)).length : Int) - 1)) - i23)), .str ⟨#[]⟩, .imm 0 4 true []], .agg [.int .i64 k28, .int .i64 n28, .str s28, .imm q28 4 f28 (cellss ks28)]]) rfl (ih_i_longForm__nk 5 (IntKind.i64.wrap ((IntKind.i64.wrap ((((ers ks8)).length : Int) - 1)) - i23)) ⟨#[]⟩ k28 n28 s28 q28 f28 ks28 hg32 _ _)) (callK_retX (fun v tk33 (hle34 : tki_longForm__nk_L1 ≤ tk33) h35 => ?_)))
    obtain ⟨k36, n36, s36, q36, f36, ks36, rfl, rfl, hf37⟩ := h35
    refine AAny.one (i := 9) (by kernel_rfl) (AOp.step rfl rfl rfl (ltb rfl) (buildSlice_step (d := 37) hG rfl rfl rfl rfl rfl (by rfl) (by rfl) (by rfl) (by decide)) (fun _ h => absurd h List.not_mem_nil) ?_)
    obtain ⟨hc38, hM⟩ := chk_t hM
    try rw [show ((ers ks24) ++ [(T.mk k36 n36 s36 (ers ks36))] : List T) = (ers (ks24 ++ [LT.mk k36 n36 s36 q36 f36 ks36])) from ers_app ks24 [LT.mk k36 n36 s36 q36 f36 ks36]] at hM
    refine AAny.one (i := 10) (by kernel_rfl) (AOp.step rfl rfl rfl (ltb rfl) (appendM_step hG rfl rfl rfl rfl rfl rfl rfl rfl rfl rfl rfl (cellss_sz ([LT.mk k36 n36 s36 q36 f36 ks36])) (tlen ks24) (tlen ([LT.mk k36 n36 s36 q36 f36 ks36])) hc38 (by decide) (cellss_app _ _)) (by intro x hx; simp only [List.mem_cons, List.not_mem_nil, or_false] at hx; subst hx; simp) ?_)
    refine AAny.take (i := 11) rfl (by kernel_rfl) (by kernel_rfl) (by kernel_rfl) rfl rfl (ltb rfl) ((fieldAddr_step hG rfl rfl rfl rfl rfl).rd _) ?_
    refine AAny.one (i := 12) (by kernel_rfl) (AOp.step0 rfl rfl rfl (store_step hG rfl rfl rfl rfl rfl rfl rfl rfl) (by intro x hx; have hx : x ∈ [ID.loc 8] := hx; simp only [List.mem_cons, List.not_mem_nil, or_false] at hx; subst hx; simp) ?_)
    refine AAny.done (by kernel_rfl) ?_
    refine run_blk ?_
    refine run_sub_code (σ' := ⟨[(4, .optr (.loc 4) 0 0), (7, .int .i64 (((ers ks8)).length : Int)), (8, .optr (.loc 8) 0 0), (21, .imm q8 4 f8 (cellss ks8)), (22, .int .i64 (((ers ks8)).length : Int)), (23, .int .i64 i23)], [(38, ⟨25, 4, false, cellss (ks24 ++ [LT.mk k36 n36 s36 q36 f36 ks36])⟩), (8, ⟨25, 4, true, [[.int .i64 k21, .int .i64 n21, .str s21, .osl (.loc 38)]]⟩), (4, ⟨25, 4, true, [[.int .i64 0, .int .i64 0, .str ⟨#[]⟩, .imm 0 4 true []]]⟩)], [], O, tk33⟩) (Sub.trans (Sub.drop (k := 37) rfl) (Sub.trans (Sub.drop (k := 10) rfl) (Sub.env _ ⟨rfl, rfl, rfl, rfl, rfl, rfl, trivial⟩))) ?_
    refine run_region ?_
    refine run_bin rfl rfl rfl rfl rfl rfl rfl (ltb rfl) ?_
    refine mvL rfl rfl rfl rfl (ltb rfl) ?_
    refine run_ops_nil ?_
    exact run_loop_end ⟨m, _, Nat.lt_succ_self _, ⟨(IntKind.i64.wrap (i23 + 1)), (ks24 ++ [LT.mk k36 n36 s36 q36 f36 ks36]), tk33, (show tk18 ≤ tk33 by omega), hM, rfl⟩, Sub.env [(4, .optr (.loc 4) 0 0), (7, .int .i64 (((ers ks8)).length : Int)), (8, .optr (.loc 8) 0 0), (21, .imm q8 4 f8 (cellss ks8)), (22, .int .i64 (((ers ks8)).length : Int)), (23, .int .i64 (IntKind.i64.wrap (i23 + 1)))] ⟨rfl, rfl, rfl, rfl, rfl, rfl, trivial⟩⟩
   ·refine AOp.call rfl rfl rfl rfl (ltb rfl) rfl rfl rfl (fun _ h => absurd h List.not_mem_nil) (fun _ h => absurd h List.not_mem_nil) (ACalls.args (args' := [.int .i64 (IntKind.i64.wrap ((IntKind.i64.wrap ((((ers ks8)).length : Int) - 1)) - i23)), .imm 0 4 true (cellss [])]) rfl (i_variable_ex (IntKind.i64.wrap ((IntKind.i64.wrap ((((ers ks8)).length : Int) - 1)) - i23)) 0 true [] _ _)) (callK_retN ?_)
    skip
    refine AAny.each (rs := [1, 8]) (by kernel_rfl) (fun h => by cases h) (fun i hi => ?_)
    simp only [List.mem_cons, List.not_mem_nil, or_false] at hi
    rcases hi with rfl | rfl
    ·refine AOp.rd rfl rfl rfl (ltb rfl) (aload_rd hG rfl rfl rfl (by first | (simp [ldok]; done) | exact List.not_mem_nil | trivial)) ?_
     obtain ⟨r39, hg40, hM⟩ := bind_t hM
     refine AAny.one (i := 8) (by kernel_rfl) (AOp.call rfl rfl rfl rfl (ltb rfl) rfl rfl rfl (fun _ h => absurd h List.not_mem_nil) (fun _ h => absurd h List.not_mem_nil) (ACalls.args (args' := [.agg [.int .i64 5, .int .i64 (IntKind.i64.wrap ((IntKind.i64.wrap ((((ers ks8)).length : Int) - 1)) - i23)), .str ⟨#[]⟩, .imm 0 4 true []], .agg [.int .i64 k28, .int .i64 n28, .str s28, .imm q28 4 f28 (cellss ks28)]]) rfl (ih_i_longForm__nk 5 (IntKind.i64.wrap ((IntKind.i64.wrap ((((ers ks8)).length : Int) - 1)) - i23)) ⟨#[]⟩ k28 n28 s28 q28 f28 ks28 hg40 _ _)) (callK_retX (fun v tk41 (hle42 : tki_longForm__nk_L1 ≤ tk41) h43 => ?_)))
     obtain ⟨k44, n44, s44, q44, f44, ks44, rfl, rfl, hf45⟩ := h43
     refine AAny.one (i := 9) (by kernel_rfl) (AOp.step rfl rfl rfl (ltb rfl) (buildSlice_step (d := 37) hG rfl rfl rfl rfl rfl (by rfl) (by rfl) (by rfl) (by decide)) (fun _ h => absurd h List.not_mem_nil) ?_)
     obtain ⟨hc46, hM⟩ := chk_t hM
     try rw [show ((ers ks24) ++ [(T.mk k44 n44 s44 (ers ks44))] : List T) = (ers (ks24 ++ [LT.mk k44 n44 s44 q44 f44 ks44])) from ers_app ks24 [LT.mk k44 n44 s44 q44 f44 ks44]] at hM
     refine AAny.one (i := 10) (by kernel_rfl) (AOp.step rfl rfl rfl (ltb rfl) (appendM_step hG rfl rfl rfl rfl rfl rfl rfl rfl rfl rfl rfl (cellss_sz ([LT.mk k44 n44 s44 q44 f44 ks44])) (tlen ks24) (tlen ([LT.mk k44 n44 s44 q44 f44 ks44])) hc46 (by decide) (cellss_app _ _)) (by intro x hx; simp only [List.mem_cons, List.not_mem_nil, or_false] at hx; subst hx; simp) ?_)
     refine AAny.take (i := 11) rfl (by kernel_rfl) (by kernel_rfl) (by kernel_rfl) rfl rfl (ltb rfl) ((fieldAddr_step hG rfl rfl rfl rfl rfl).rd _) ?_
     refine AAny.one (i := 12) (by kernel_rfl) (AOp.step0 rfl rfl rfl (store_step hG rfl rfl rfl rfl rfl rfl rfl rfl) (by intro x hx; have hx : x ∈ [ID.loc 8] := hx; simp only [List.mem_cons, List.not_mem_nil, or_false] at hx; subst hx; simp) ?_)
     refine AAny.done (by kernel_rfl) ?_
     refine run_blk ?_
     refine run_sub_code (σ' := ⟨[(4, .optr (.loc 4) 0 0), (7, .int .i64 (((ers ks8)).length : Int)), (8, .optr (.loc 8) 0 0), (21, .imm q8 4 f8 (cellss ks8)), (22, .int .i64 (((ers ks8)).length : Int)), (23, .int .i64 i23)], [(38, ⟨25, 4, false, cellss (ks24 ++ [LT.mk k44 n44 s44 q44 f44 ks44])⟩), (8, ⟨25, 4, true, [[.int .i64 k21, .int .i64 n21, .str s21, .osl (.loc 38)]]⟩), (4, ⟨25, 4, true, [[.int .i64 0, .int .i64 0, .str ⟨#[]⟩, .imm 0 4 true []]]⟩)], [], O, tk41⟩) (Sub.trans (Sub.drop (k := 37) rfl) (Sub.trans (Sub.drop (k := 10) rfl) (Sub.env _ ⟨rfl, rfl, rfl, rfl, rfl, rfl, trivial⟩))) ?_
     refine run_region ?_
     refine run_bin rfl rfl rfl rfl rfl rfl rfl (ltb rfl) ?_
     refine mvL rfl rfl rfl rfl (ltb rfl) ?_
     refine run_ops_nil ?_
     exact run_loop_end ⟨m, _, Nat.lt_succ_self _, ⟨(IntKind.i64.wrap (i23 + 1)), (ks24 ++ [LT.mk k44 n44 s44 q44 f44 ks44]), tk41, (show tk18 ≤ tk41 by omega), hM, rfl⟩, Sub.env [(4, .optr (.loc 4) 0 0), (7, .int .i64 (((ers ks8)).length : Int)), (8, .optr (.loc 8) 0 0), (21, .imm q8 4 f8 (cellss ks8)), (22, .int .i64 (((ers ks8)).length : Int)), (23, .int .i64 (IntKind.i64.wrap (i23 + 1)))] ⟨rfl, rfl, rfl, rfl, rfl, rfl, trivial⟩⟩
    ·obtain ⟨r47, hg48, hM⟩ := bind_t hM
     refine AOp.call rfl rfl rfl rfl (ltb rfl) rfl rfl rfl (fun _ h => absurd h List.not_mem_nil) (fun _ h => absurd h List.not_mem_nil) (ACalls.args (args' := [.agg [.int .i64 5, .int .i64 (IntKind.i64.wrap ((IntKind.i64.wrap ((((ers ks8)).length : Int) - 1)) - i23)), .str ⟨#[]⟩, .imm 0 4 true []], .agg [.int .i64 k28, .int .i64 n28, .str s28, .imm q28 4 f28 (cellss ks28)]]) rfl (ih_i_longForm__nk 5 (IntKind.i64.wrap ((IntKind.i64.wrap ((((ers ks8)).length : Int) - 1)) - i23)) ⟨#[]⟩ k28 n28 s28 q28 f28 ks28 hg48 _ _)) (callK_retX (fun v tk49 (hle50 : tki_longForm__nk_L1 ≤ tk49) h51 => ?_))
     obtain ⟨k52, n52, s52, q52, f52, ks52, rfl, rfl, hf53⟩ := h51
     refine AAny.each (rs := [1, 9]) (by kernel_rfl) (fun h => by cases h) (fun i hi => ?_)
     simp only [List.mem_cons, List.not_mem_nil, or_false] at hi
     rcases hi with rfl | rfl
     ·refine AOp.rd rfl rfl rfl (ltb rfl) (aload_rd hG rfl rfl rfl (by first | (simp [ldok]; done) | exact List.not_mem_nil | trivial)) ?_
      refine AAny.one (i := 9) (by kernel_rfl) (AOp.step rfl rfl rfl (ltb rfl) (buildSlice_step (d := 37) hG rfl rfl rfl rfl rfl (by rfl) (by rfl) (by rfl) (by decide)) (fun _ h => absurd h List.not_mem_nil) ?_)
      obtain ⟨hc54, hM⟩ := chk_t hM
      try rw [show ((ers ks24) ++ [(T.mk k52 n52 s52 (ers ks52))] : List T) = (ers (ks24 ++ [LT.mk k52 n52 s52 q52 f52 ks52])) from ers_app ks24 [LT.mk k52 n52 s52 q52 f52 ks52]] at hM
      refine AAny.one (i := 10) (by kernel_rfl) (AOp.step rfl rfl rfl (ltb rfl) (appendM_step hG rfl rfl rfl rfl rfl rfl rfl rfl rfl rfl rfl (cellss_sz ([LT.mk k52 n52 s52 q52 f52 ks52])) (tlen ks24) (tlen ([LT.mk k52 n52 s52 q52 f52 ks52])) hc54 (by decide) (cellss_app _ _)) (by intro x hx; simp only [List.mem_cons, List.not_mem_nil, or_false] at hx; subst hx; simp) ?_)
      refine AAny.take (i := 11) rfl (by kernel_rfl) (by kernel_rfl) (by kernel_rfl) rfl rfl (ltb rfl) ((fieldAddr_step hG rfl rfl rfl rfl rfl).rd _) ?_
      refine AAny.one (i := 12) (by kernel_rfl) (AOp.step0 rfl rfl rfl (store_step hG rfl rfl rfl rfl rfl rfl rfl rfl) (by intro x hx; have hx : x ∈ [ID.loc 8] := hx; simp only [List.mem_cons, List.not_mem_nil, or_false] at hx; subst hx; simp) ?_)
      refine AAny.done (by kernel_rfl) ?_
      refine run_blk ?_
      refine run_sub_code (σ' := ⟨[(4, .optr (.loc 4) 0 0), (7, .int .i64 (((ers ks8)).length : Int)), (8, .optr (.loc 8) 0 0), (21, .imm q8 4 f8 (cellss ks8)), (22, .int .i64 (((ers ks8)).length : Int)), (23, .int .i64 i23)], [(38, ⟨25, 4, false, cellss (ks24 ++ [LT.mk k52 n52 s52 q52 f52 ks52])⟩), (8, ⟨25, 4, true, [[.int .i64 k21, .int .i64 n21, .str s21, .osl (.loc 38)]]⟩), (4, ⟨25, 4, true, [[.int .i64 0, .int .i64 0, .str ⟨#[]⟩, .imm 0 4 true []]]⟩)], [], O, tk49⟩) (Sub.trans (Sub.drop (k := 37) rfl) (Sub.trans (Sub.drop (k := 10) rfl) (Sub.env _ ⟨rfl, rfl, rfl, rfl, rfl, rfl, trivial⟩))) ?_
      refine run_region ?_
      refine run_bin rfl rfl rfl rfl rfl rfl rfl (ltb rfl) ?_
      refine mvL rfl rfl rfl rfl (ltb rfl) ?_
      refine run_ops_nil ?_
      exact run_loop_end ⟨m, _, Nat.lt_succ_self _, ⟨(IntKind.i64.wrap (i23 + 1)), (ks24 ++ [LT.mk k52 n52 s52 q52 f52 ks52]), tk49, (show tk18 ≤ tk49 by omega), hM, rfl⟩, Sub.env [(4, .optr (.loc 4) 0 0), (7, .int .i64 (((ers ks8)).length : Int)), (8, .optr (.loc 8) 0 0), (21, .imm q8 4 f8 (cellss ks8)), (22, .int .i64 (((ers ks8)).length : Int)), (23, .int .i64 (IntKind.i64.wrap (i23 + 1)))] ⟨rfl, rfl, rfl, rfl, rfl, rfl, trivial⟩⟩
     ·refine AOp.step rfl rfl rfl (ltb rfl) (buildSlice_step (d := 37) hG rfl rfl rfl rfl rfl (by rfl) (by rfl) (by rfl) (by decide)) (fun _ h => absurd h List.not_mem_nil) ?_
      refine AAny.one (i := 1) (by kernel_rfl) (AOp.rd rfl rfl rfl (ltb rfl) (aload_rd hG rfl rfl rfl (by first | (simp [ldok]; done) | exact List.not_mem_nil | trivial)) ?_)
      obtain ⟨hc55, hM⟩ := chk_t hM
      try rw [show ((ers ks24) ++ [(T.mk k52 n52 s52 (ers ks52))] : List T) = (ers (ks24 ++ [LT.mk k52 n52 s52 q52 f52 ks52])) from ers_app ks24 [LT.mk k52 n52 s52 q52 f52 ks52]] at hM
      refine AAny.one (i := 10) (by kernel_rfl) (AOp.step rfl rfl rfl (ltb rfl) (appendM_step hG rfl rfl rfl rfl rfl rfl rfl rfl rfl rfl rfl (cellss_sz ([LT.mk k52 n52 s52 q52 f52 ks52])) (tlen ks24) (tlen ([LT.mk k52 n52 s52 q52 f52 ks52])) hc55 (by decide) (cellss_app _ _)) (by intro x hx; simp only [List.mem_cons, List.not_mem_nil, or_false] at hx; subst hx; simp) ?_)
      refine AAny.take (i := 11) rfl (by kernel_rfl) (by kernel_rfl) (by kernel_rfl) rfl rfl (ltb rfl) ((fieldAddr_step hG rfl rfl rfl rfl rfl).rd _) ?_
      refine AAny.one (i := 12) (by kernel_rfl) (AOp.step0 rfl rfl rfl (store_step hG rfl rfl rfl rfl rfl rfl rfl rfl) (by intro x hx; have hx : x ∈ [ID.loc 8] := hx; simp only [List.mem_cons, List.not_mem_nil, or_false] at hx; subst hx; simp) ?_)
      refine AAny.done (by kernel_rfl) ?_
      refine run_blk ?_
      refine run_sub_code (σ' := ⟨[(4, .optr (.loc 4) 0 0), (7, .int .i64 (((ers ks8)).length : Int)), (8, .optr (.loc 8) 0 0), (21, .imm q8 4 f8 (cellss ks8)), (22, .int .i64 (((ers ks8)).length : Int)), (23, .int .i64 i23)], [(38, ⟨25, 4, false, cellss (ks24 ++ [LT.mk k52 n52 s52 q52 f52 ks52])⟩), (8, ⟨25, 4, true, [[.int .i64 k21, .int .i64 n21, .str s21, .osl (.loc 38)]]⟩), (4, ⟨25, 4, true, [[.int .i64 0, .int .i64 0, .str ⟨#[]⟩, .imm 0 4 true []]]⟩)], [], O, tk49⟩) (Sub.trans (Sub.drop (k := 37) rfl) (Sub.trans (Sub.drop (k := 10) rfl) (Sub.env _ ⟨rfl, rfl, rfl, rfl, rfl, rfl, trivial⟩))) ?_
      refine run_region ?_
      refine run_bin rfl rfl rfl rfl rfl rfl rfl (ltb rfl) ?_
      refine mvL rfl rfl rfl rfl (ltb rfl) ?_
      refine run_ops_nil ?_
      exact run_loop_end ⟨m, _, Nat.lt_succ_self _, ⟨(IntKind.i64.wrap (i23 + 1)), (ks24 ++ [LT.mk k52 n52 s52 q52 f52 ks52]), tk49, (show tk18 ≤ tk49 by omega), hM, rfl⟩, Sub.env [(4, .optr (.loc 4) 0 0), (7, .int .i64 (((ers ks8)).length : Int)), (8, .optr (.loc 8) 0 0), (21, .imm q8 4 f8 (cellss ks8)), (22, .int .i64 (((ers ks8)).length : Int)), (23, .int .i64 (IntKind.i64.wrap (i23 + 1)))] ⟨rfl, rfl, rfl, rfl, rfl, rfl, trivial⟩⟩
  ·replace hM := ite_f hb25 hM
   refine run_exit_to rfl ?_
   refine run_seq ?_
   refine run_sr ?_
   refine mvL rfl rfl rfl rfl (ltb rfl) ?_
   refine mvL rfl rfl rfl rfl (ltb rfl) ?_
   refine run_ops_nil ?_
   refine run_block ?_
   refine run_sub_code (Sub.freeze (k := 38) rfl rfl) ?_
   refine run_rounds (fun m σ => ∃ (i56 : Int) (i57 : Int) (i58 : Int) (t59 : ByteArray) (q60 : Nat) (f60 : Bool) (ks60 : List LT) (tki_longForm__nk_L2 : Nat), (tki_longForm__nk_L1 + 1) ≤ tki_longForm__nk_L2 ∧ i_longForm__nk_L2 ((ers ks8), (T.mk k10 n10 s10 (ers ks10))) m i56 i57 i58 t59 (ers ks60) = some r ∧ σ = ⟨[(4, .optr (.loc 4) 0 0), (8, .optr (.loc 8) 0 0), (41, .int .i64 (((ers ks8)).length : Int)), (42, .int .i64 i56)], [(8, ⟨25, 4, true, [[.int .i64 i57, .int .i64 i58, .str t59, .imm q60 4 f60 (cellss ks60)]]⟩), (4, ⟨25, 4, true, [[.int .i64 0, .int .i64 0, .str ⟨#[]⟩, .imm 0 4 true []]]⟩)], [], O, tki_longForm__nk_L2⟩) n (Sub.env [(4, .optr (.loc 4) 0 0), (8, .optr (.loc 8) 0 0), (41, .int .i64 (((ers ks8)).length : Int)), (42, .int .i64 0)] ⟨rfl, rfl, rfl, rfl, trivial⟩) ⟨0, k21, n21, s21, tki_longForm__nk_L1, false, ks24, (tki_longForm__nk_L1 + 1), Nat.le_refl _, hM, rfl⟩ (fun m σ hI => ?_)
   clear hM
   obtain ⟨i56, i57, i58, t59, q60, f60, ks60, tki_longForm__nk_L2, hle62, hM, rfl⟩ := hI
   obtain _ | m := m
   ·exact absurd hM (by rw [i_longForm__nk_L2]; exact fun h => by cases h)
   rw [i_longForm__nk_L2] at hM
   refine run_sr ?_
   refine run_bin rfl rfl rfl rfl rfl rfl rfl (ltb rfl) ?_
   refine run_ops_nil ?_
   refine run_seq ?_
   refine run_ifd rfl rfl (fun hb61 => ?_) (fun hb61 => ?_)
   ·replace hM := ite_t hb61 hM
    refine run_skip ?_
    refine run_seq ?_
    refine run_block ?_
    refine run_region ?_
    refine run_ld hG rfl rfl rfl rfl rfl (ltb rfl) ?_
    refine run_call rfl rfl rfl (ltb rfl) rfl rfl rfl (fun _ h => absurd h List.not_mem_nil) (i_lam_ex i57 i58 t59 q60 f60 ks60 _ _) (callK_retN ?_)
    skip
    refine run_op0 rfl (store_step hG rfl rfl rfl rfl rfl rfl rfl rfl) rfl ?_
    refine run_ops_nil ?_
    refine run_blk ?_
    refine run_region ?_
    refine run_bin rfl rfl rfl rfl rfl rfl rfl (ltb rfl) ?_
    refine mvL rfl rfl rfl rfl (ltb rfl) ?_
    refine run_ops_nil ?_
    exact run_loop_end ⟨m, _, Nat.lt_succ_self _, ⟨(IntKind.i64.wrap (i56 + 1)), 4, 0, ⟨#[]⟩, tki_longForm__nk_L2, false, [LT.mk i57 i58 t59 q60 f60 ks60], (tki_longForm__nk_L2 + 1), (show (tki_longForm__nk_L1 + 1) ≤ (tki_longForm__nk_L2 + 1) by omega), hM, rfl⟩, Sub.env [(4, .optr (.loc 4) 0 0), (8, .optr (.loc 8) 0 0), (41, .int .i64 (((ers ks8)).length : Int)), (42, .int .i64 (IntKind.i64.wrap (i56 + 1)))] ⟨rfl, rfl, rfl, rfl, trivial⟩⟩
   ·replace hM := ite_f hb61 hM
    refine run_exit_to rfl ?_
    refine run_sr ?_
    refine run_ld hG rfl rfl rfl rfl rfl (ltb rfl) ?_
    refine run_op0 rfl (store_step hG rfl rfl rfl rfl rfl rfl rfl rfl) rfl ?_
    refine run_ops_nil ?_
    refine run_ret_to ?_
    obtain rfl := some_t hM
    refine fin_x hG rfl rfl rfl (v' := .agg [.int .i64 i57, .int .i64 i58, .str t59, .imm q60 4 f60 (cellss ks60)]) (by rfl) ⟨rfl, (show tk ≤ tki_longForm__nk_L2 by omega), _, rfl, ⟨i57, i58, t59, q60, f60, ks60, rfl, rfl, fun h => by cases h⟩⟩

theorem i_longForm__nk_all : ∀ (n : Nat), (∀ (k1 : Int) (n1 : Int) (s1 : ByteArray) (k2 : Int) (n2 : Int) (s2 : ByteArray) (q2 : Nat) (f2 : Bool) (ks2 : List LT) {r : T}, i_longForm__nk n (T.mk k1 n1 s1 []) (T.mk k2 n2 s2 (ers ks2)) = some r → ∀ (O : Heap) (tk : Nat), ACalls Go.Proofs.Tryd.prog 119 [.agg [.int .i64 k1, .int .i64 n1, .str s1, .imm 0 4 true []], .agg [.int .i64 k2, .int .i64 n2, .str s2, .imm q2 4 f2 (cellss ks2)]] O tk (RetX O tk (fun v tk' => VT false tk tk' r v)))
 | 0 => by intro k1 n1 s1 k2 n2 s2 q2 f2 ks2 r hM; rw [i_longForm__nk] at hM; cases hM
 | n + 1 => have ih := i_longForm__nk_all n; i_longForm__nk_st n (ih)

theorem i_longForm__nk_ok (n : Nat) : ∀ (k1 : Int) (n1 : Int) (s1 : ByteArray) (k2 : Int) (n2 : Int) (s2 : ByteArray) (q2 : Nat) (f2 : Bool) (ks2 : List LT) {r : T}, i_longForm__nk n (T.mk k1 n1 s1 []) (T.mk k2 n2 s2 (ers ks2)) = some r → ∀ (O : Heap) (tk : Nat), ACalls Go.Proofs.Tryd.prog 119 [.agg [.int .i64 k1, .int .i64 n1, .str s1, .imm 0 4 true []], .agg [.int .i64 k2, .int .i64 n2, .str s2, .imm q2 4 f2 (cellss ks2)]] O tk (RetX O tk (fun v tk' => VT false tk tk' r v)) := i_longForm__nk_all n

def i_badSimple (n : Nat) (x1 : T) : Option Bool :=
 (i_SimpleOK n x1).bind fun r2 =>
 some (!r2)

set_option maxRecDepth 100000 in
theorem i_badSimple_ok (n : Nat) : ∀ (k1 : Int) (n1 : Int) (s1 : ByteArray) (q1 : Nat) (f1 : Bool) (ks1 : List LT) {r : Bool}, i_badSimple n (T.mk k1 n1 s1 (ers ks1)) = some r → ∀ (O : Heap) (tk : Nat), ACalls Go.Proofs.Tryd.prog 63 [.agg [.int .i64 k1, .int .i64 n1, .str s1, .imm q1 4 f1 (cellss ks1)]] O tk (RetX O tk (fun v tk' => v = .bool r)) := by
 intro k1 n1 s1 q1 f1 ks1 r hM O tk
 unfold i_badSimple at hM
 refine acalls_of_run Go.Proofs.Tryd.func63 rfl rfl [] [] (Bor.nil _) [(0, .agg [.int .i64 k1, .int .i64 n1, .str s1, .imm q1 4 f1 (cellss ks1)])] (.cons (.agg _) (.nil _)) (leb rfl) (fun _ h => by cases h) (fun S0 hO htk hfz => ?_)
 refine run_sr ?_
 refine run_op rfl (box_step (d := 1) rfl rfl rfl rfl rfl) rfl (ltb rfl) ?_
 refine mvR rfl rfl rfl rfl (ltb rfl) ?_
 refine run_ops_nil ?_
 refine run_sr ?_
 refine run_ld hG rfl rfl rfl rfl rfl (ltb rfl) ?_
 obtain ⟨r2, hg3, hM⟩ := bind_t hM
 refine run_call rfl rfl rfl (ltb rfl) rfl rfl rfl (fun _ h => absurd h List.not_mem_nil) (i_SimpleOK_ok n k1 n1 s1 q1 f1 ks1 hg3 _ _) (callK_retX (fun v tk4 (hle5 : tk ≤ tk4) h6 => ?_))
 subst h6
 refine run_pu rfl (aun_step rfl rfl rfl) rfl (ltb rfl) ?_
 refine mvR rfl rfl rfl rfl (ltb rfl) ?_
 refine run_ops_nil ?_
 refine run_ret_to ?_
 obtain rfl := some_t hM
 refine fin_x hG rfl rfl rfl (v' := .bool (!r2)) (by rfl) ⟨rfl, (show tk ≤ tk4 by omega), _, rfl, rfl⟩

set_option maxRecDepth 100000 in
theorem s_l01Lam_ex (k1 : Int) (n1 : Int) (s1 : ByteArray) (q1 : Nat) (f1 : Bool) (ks1 : List LT) (O : Heap) (tk : Nat) : ACalls Go.Proofs.Tryd.prog 87 [.agg [.int .i64 k1, .int .i64 n1, .str s1, .imm q1 4 f1 (cellss ks1)]] O tk (RetN O (.agg [.int .i64 4, .int .i64 0, .str ⟨#[]⟩, .imm tk 4 false (cellss [LT.mk k1 n1 s1 q1 f1 ks1])]) (tk + 1)) := by
 refine acalls_of_run Go.Proofs.Tryd.func87 rfl rfl [] [] (Bor.nil _) [(0, .agg [.int .i64 k1, .int .i64 n1, .str s1, .imm q1 4 f1 (cellss ks1)])] (.cons (.agg _) (.nil _)) (leb rfl) (fun _ h => by cases h) (fun S0 hO htk hfz => ?_)
 refine run_sr ?_
 refine run_op rfl (box_step (d := 1) rfl rfl rfl rfl rfl) rfl (ltb rfl) ?_
 refine run_op rfl (alloc_step (d := 2) hG rfl rfl rfl) rfl (ltb rfl) ?_
 refine run_ops_nil ?_
 refine run_sr ?_
 refine run_ld hG rfl rfl rfl rfl rfl (ltb rfl) ?_
 refine run_op rfl (buildSlice_step (d := 4) hG rfl rfl rfl rfl rfl (by rfl) (by rfl) (by rfl) (by decide)) rfl (ltb rfl) ?_
 refine run_pu rfl (build_step hG rfl (by rfl) rfl (fun h => by cases h) (by rfl)) rfl (ltb rfl) ?_
 refine run_op0 rfl (store_step hG rfl rfl rfl rfl rfl rfl rfl rfl) rfl ?_
 refine run_ops_nil ?_
 refine run_ret_to ?_
 refine fin_sub (Sub.freeze (k := 4) rfl rfl) ?_
 refine fin_x hG rfl rfl rfl (v' := .agg [.int .i64 4, .int .i64 0, .str ⟨#[]⟩, .imm tk 4 false (cellss [LT.mk k1 n1 s1 q1 f1 ks1])]) (by rfl) ⟨rfl, rfl, rfl⟩

set_option maxRecDepth 100000 in
theorem s_l01Var_ex (i1 : Int) (q2 : Nat) (f2 : Bool) (ks2 : List LT) (O : Heap) (tk : Nat) : ACalls Go.Proofs.Tryd.prog 54 [.int .i64 i1, .imm q2 4 f2 (cellss ks2)] O tk (RetN O (.agg [.int .i64 5, .int .i64 i1, .str ⟨#[]⟩, .imm q2 4 f2 (cellss ks2)]) tk) := by
 refine acalls_of_run Go.Proofs.Tryd.func54 rfl rfl [] [] (Bor.nil _) [(0, .int .i64 i1), (1, .imm q2 4 f2 (cellss ks2))] (.cons (entS rfl) (.cons (entS rfl) (.nil _))) (leb rfl) (fun _ h => by cases h) (fun S0 hO htk hfz => ?_)
 refine run_sr ?_
 refine run_op rfl (alloc_step (d := 4) hG rfl rfl rfl) rfl (ltb rfl) ?_
 refine run_ops_nil ?_
 refine run_sr ?_
 refine mvL rfl rfl rfl rfl (ltb rfl) ?_
 refine mvL rfl rfl rfl rfl (ltb rfl) ?_
 refine run_pu rfl (build_step hG rfl (by rfl) rfl (fun h => by cases h) (by rfl)) rfl (ltb rfl) ?_
 refine run_op0 rfl (store_step hG rfl rfl rfl rfl rfl rfl rfl rfl) rfl ?_
 refine run_ops_nil ?_
 refine run_ret_to ?_
 refine fin_x hG rfl rfl rfl (v' := .agg [.int .i64 5, .int .i64 i1, .str ⟨#[]⟩, .imm q2 4 f2 (cellss ks2)]) (by rfl) ⟨rfl, rfl, rfl⟩

def s_l03Long_L3 : Nat → Int → Int → Int → ByteArray → List T → Option T
 | 0, _, _, _, _, _ => none
 | m + 1, i47, i48, i49, t50, l51 =>
  if i47 > 0 then
   s_l03Long_L3 m (IntKind.i64.wrap (i47 - 1)) 4 0 (⟨#[]⟩) ([(T.mk i48 i49 t50 l51)])
  else
   some (T.mk i48 i49 t50 l51)

def s_l03Long_L2 (rec_s_l03Long : T → T → Option T) (n : Nat) (i3 : Int) (r14 : T) : Nat → Int → Int → Int → ByteArray → List T → List T → Option T
 | 0, _, _, _, _, _, _ => none
 | m + 1, i22, i23, i24, t25, l26, l27 =>
  if i22 ≥ 0 then
   (idx l26 0).bind fun y29 =>
   (rec_s_l03Long (T.mk 5 i22 ⟨#[]⟩ []) y29).bind fun r34 =>
   chk ((l27).length + ([r34]).length ≤ 1099511627776) <|
   (idx l26 1).bind fun y42 =>
   s_l03Long_L2 rec_s_l03Long n i3 r14 m (IntKind.i64.wrap (i22 - 1)) y42.kind y42.n y42.name y42.kids (l27 ++ [r34])
  else
   s_l03Long_L3 n i3 r14.kind r14.n r14.name l27

def s_l03Long_L1 (rec_s_l03Long : T → T → Option T) (n : Nat) (x1 : T) (x2 : T) : Nat → Int → Int → Int → ByteArray → List T → Option T
 | 0, _, _, _, _, _ => none
 | m + 1, i3, i4, i5, t6, l7 =>
  if i4 = 10 then
   (idx l7 1).bind fun y9 =>
   s_l03Long_L1 rec_s_l03Long n x1 x2 m (IntKind.i64.wrap (i3 + 1)) y9.kind y9.n y9.name y9.kids
  else
   (s_l01Lift n x1 0 i3).bind fun r14 =>
   chk ((([] : List T)).length + (r14.kids).length ≤ 1099511627776) <|
   s_l03Long_L2 rec_s_l03Long n i3 r14 n (IntKind.i64.wrap (i3 - 1)) x2.kind x2.n x2.name x2.kids r14.kids

def s_l03Long : Nat → T → T → Option T
 | 0, _, _ => none
 | n + 1, x1, x2 =>
  s_l03Long_L1 (s_l03Long n) n x1 x2 n 0 x2.kind x2.n x2.name x2.kids

set_option maxHeartbeats 2000000 in
set_option maxRecDepth 100000 in
theorem s_l03Long_st (n : Nat) (ih_s_l03Long : ∀ (k1 : Int) (n1 : Int) (s1 : ByteArray) (q1 : Nat) (f1 : Bool) (ks1 : List LT) (k2 : Int) (n2 : Int) (s2 : ByteArray) (q2 : Nat) (f2 : Bool) (ks2 : List LT) {r : T}, s_l03Long n (T.mk k1 n1 s1 (ers ks1)) (T.mk k2 n2 s2 (ers ks2)) = some r → ∀ (O : Heap) (tk : Nat), ACalls Go.Proofs.Tryd.prog 53 [.agg [.int .i64 k1, .int .i64 n1, .str s1, .imm q1 4 f1 (cellss ks1)], .agg [.int .i64 k2, .int .i64 n2, .str s2, .imm q2 4 f2 (cellss ks2)]] O tk (RetX O tk (fun v tk' => VT true tk tk' r v))) : ∀ (k1 : Int) (n1 : Int) (s1 : ByteArray) (q1 : Nat) (f1 : Bool) (ks1 : List LT) (k2 : Int) (n2 : Int) (s2 : ByteArray) (q2 : Nat) (f2 : Bool) (ks2 : List LT) {r : T}, s_l03Long (n + 1) (T.mk k1 n1 s1 (ers ks1)) (T.mk k2 n2 s2 (ers ks2)) = some r → ∀ (O : Heap) (tk : Nat), ACalls Go.Proofs.Tryd.prog 53 [.agg [.int .i64 k1, .int .i64 n1, .str s1, .imm q1 4 f1 (cellss ks1)], .agg [.int .i64 k2, .int .i64 n2, .str s2, .imm q2 4 f2 (cellss ks2)]] O tk (RetX O tk (fun v tk' => VT true tk tk' r v)) := by
 intro k1 n1 s1 q1 f1 ks1 k2 n2 s2 q2 f2 ks2 r hM O tk
 rw [s_l03Long] at hM
 refine acalls_of_run Go.Proofs.Tryd.func53 rfl rfl [] [] (Bor.nil _) [(0, .agg [.int .i64 k1, .int .i64 n1, .str s1, .imm q1 4 f1 (cellss ks1)]), (1, .agg [.int .i64 k2, .int .i64 n2, .str s2, .imm q2 4 f2 (cellss ks2)])] (.cons (.agg _) (.cons (.agg _) (.nil _))) (leb rfl) (fun _ h => by cases h) (fun S0 hO htk hfz => ?_)
 refine run_sr ?_
 refine run_op rfl (box_step (d := 2) rfl rfl rfl rfl rfl) rfl (ltb rfl) ?_
 refine run_op rfl (box_step (d := 3) rfl rfl rfl rfl rfl) rfl (ltb rfl) ?_
 refine run_op rfl (alloc_step (d := 4) hG rfl rfl rfl) rfl (ltb rfl) ?_
 refine run_ops_nil ?_
 refine run_sr ?_
 refine mvR rfl rfl rfl rfl (ltb rfl) ?_
 refine run_ops_nil ?_
 refine run_seq ?_
 refine run_sr ?_
 refine run_ld hG rfl rfl rfl rfl rfl (ltb rfl) ?_
 refine run_op rfl (alloc_step (d := 6) hG rfl rfl rfl) rfl (ltb rfl) ?_
 refine run_op0 rfl (store_step hG rfl rfl rfl rfl rfl rfl rfl rfl) rfl ?_
 refine run_ops_nil ?_
 refine run_block ?_
 refine run_rounds (fun m σ => ∃ (i3 : Int) (i4 : Int) (i5 : Int) (t6 : ByteArray) (q7 : Nat) (f7 : Bool) (ks7 : List LT) (tks_l03Long_L1 : Nat), tk ≤ tks_l03Long_L1 ∧ s_l03Long_L1 (s_l03Long n) n (T.mk k1 n1 s1 (ers ks1)) (T.mk k2 n2 s2 (ers ks2)) m i3 i4 i5 t6 (ers ks7) = some r ∧ σ = ⟨[(2, .optr (.loc 2) 0 0), (3, .optr (.loc 3) 0 0), (4, .optr (.loc 4) 0 0), (5, .int .i64 i3), (6, .optr (.loc 6) 0 0)], [(6, ⟨25, 4, true, [[.int .i64 i4, .int .i64 i5, .str t6, .imm q7 4 f7 (cellss ks7)]]⟩), (4, ⟨25, 4, true, [[.int .i64 0, .int .i64 0, .str ⟨#[]⟩, .imm 0 4 true []]]⟩), (3, ⟨25, 4, true, [[.int .i64 k2, .int .i64 n2, .str s2, .imm q2 4 f2 (cellss ks2)]]⟩), (2, ⟨25, 4, true, [[.int .i64 k1, .int .i64 n1, .str s1, .imm q1 4 f1 (cellss ks1)]]⟩)], [], O, tks_l03Long_L1⟩) n (Sub.env [(2, .optr (.loc 2) 0 0), (3, .optr (.loc 3) 0 0), (4, .optr (.loc 4) 0 0), (5, .int .i64 0), (6, .optr (.loc 6) 0 0)] ⟨rfl, rfl, rfl, rfl, rfl, trivial⟩) ⟨0, k2, n2, s2, q2, f2, ks2, tk, Nat.le_refl _, hM, rfl⟩ (fun m σ hI => ?_)
 clear hM
 obtain ⟨i3, i4, i5, t6, q7, f7, ks7, tks_l03Long_L1, hle56, hM, rfl⟩ := hI
 obtain _ | m := m
 ·exact absurd hM (by rw [s_l03Long_L1]; exact fun h => by cases h)
 rw [s_l03Long_L1] at hM
 refine run_seq ?_
 refine run_sr ?_
 refine run_pu rfl (fieldAddr_step hG rfl rfl rfl rfl rfl) rfl (ltb rfl) ?_
 refine run_ld hG rfl rfl rfl rfl rfl (ltb rfl) ?_
 refine run_bin rfl rfl rfl rfl rfl rfl rfl (ltb rfl) ?_
 refine run_ops_nil ?_
 refine run_ifd rfl rfl (fun hb8 => ?_) (fun hb8 => ?_)
 ·replace hM := ite_t hb8 hM
  refine run_skip ?_
  refine run_seq ?_
  refine run_block ?_
  refine run_region ?_
  refine mvL rfl rfl rfl rfl (ltb rfl) ?_
  refine run_bin rfl rfl rfl rfl rfl rfl rfl (ltb rfl) ?_
  refine mvR rfl rfl rfl rfl (ltb rfl) ?_
  refine run_ops_nil ?_
  refine run_blk ?_
  refine run_seq ?_
  refine run_sr ?_
  refine run_ld hG rfl rfl rfl rfl rfl (ltb rfl) ?_
  refine run_ops_nil ?_
  refine run_region ?_
  refine run_sub_ops (Sub.drop (k := 6) rfl) ?_
  refine run_op rfl (alloc_step (d := 6) hG rfl rfl rfl) rfl (ltb rfl) ?_
  refine run_op0 rfl (store_step hG rfl rfl rfl rfl rfl rfl rfl rfl) rfl ?_
  refine run_ops_nil ?_
  refine run_region ?_
  refine run_pu rfl (fieldAddr_step hG rfl rfl rfl rfl rfl) rfl (ltb rfl) ?_
  refine run_ld hG rfl rfl rfl rfl rfl (ltb rfl) ?_
  obtain ⟨y9, hy10, hM⟩ := bind_t hM
  obtain ⟨k11, n11, s11, q11, f11, ks11, rfl, hc12, hi13⟩ := tidx (ks := ks7) hy10
  refine run_pu rfl (indexImm_step hG rfl rfl rfl hi13 rfl rfl rfl rfl hc12) rfl (ltb rfl) ?_
  refine run_ld hG rfl rfl rfl rfl rfl (ltb rfl) ?_
  refine run_op0 rfl (store_step hG rfl rfl rfl rfl rfl rfl rfl rfl) rfl ?_
  refine run_ops_nil ?_
  exact run_loop_end ⟨m, _, Nat.lt_succ_self _, ⟨(IntKind.i64.wrap (i3 + 1)), k11, n11, s11, q11, f11, ks11, tks_l03Long_L1, (show tk ≤ tks_l03Long_L1 by omega), hM, rfl⟩, Sub.env [(2, .optr (.loc 2) 0 0), (3, .optr (.loc 3) 0 0), (4, .optr (.loc 4) 0 0), (5, .int .i64 (IntKind.i64.wrap (i3 + 1))), (6, .optr (.loc 6) 0 0)] ⟨rfl, rfl, rfl, rfl, rfl, trivial⟩⟩
 ·replace hM := ite_f hb8 hM
  refine run_exit_to rfl ?_
  refine run_sr ?_
  refine run_ld hG rfl rfl rfl rfl rfl (ltb rfl) ?_
  refine mvL rfl rfl rfl rfl (ltb rfl) ?_
  obtain ⟨r14, hg15, hM⟩ := bind_t hM
  refine run_call rfl rfl rfl (ltb rfl) rfl rfl rfl (fun _ h => absurd h List.not_mem_nil) (s_l01Lift_ok n k1 n1 s1 q1 f1 ks1 0 i3 hg15 _ _) (callK_retX (fun v tk16 (hle17 : tks_l03Long_L1 ≤ tk16) h18 => ?_))
  obtain ⟨k19, n19, s19, q19, f19, ks19, rfl, rfl, hf20⟩ := h18
  refine run_op rfl (alloc_step (d := 7) hG rfl rfl rfl) rfl (ltb rfl) ?_
  refine run_op0 rfl (store_step hG rfl rfl rfl rfl rfl rfl rfl rfl) rfl ?_
  refine run_ops_nil ?_
  refine run_sr ?_
  refine run_op rfl (buildSlice_step (d := 24) hG rfl rfl rfl rfl rfl (by rfl) (by rfl) (by rfl) (by decide)) rfl (ltb rfl) ?_
  refine run_pu rfl (fieldAddr_step hG rfl rfl rfl rfl rfl) rfl (ltb rfl) ?_
  refine run_ld hG rfl rfl rfl rfl rfl (ltb rfl) ?_
  obtain ⟨hc21, hM⟩ := chk_t hM
  refine run_op rfl (appendM_step hG rfl rfl rfl rfl rfl rfl rfl rfl rfl rfl rfl (cellss_sz ks19) (tlen ([] : List LT)) (tlen ks19) (by first | exact hc21 | simpa [ers] using hc21) (by decide) (List.nil_append _)) rfl (ltb rfl) ?_
  refine mvR rfl rfl rfl rfl (ltb rfl) ?_
  refine run_ops_nil ?_
  refine run_seq ?_
  refine run_sr ?_
  refine mvL rfl rfl rfl rfl (ltb rfl) ?_
  refine run_bin rfl rfl rfl rfl rfl rfl rfl (ltb rfl) ?_
  refine mvR rfl rfl rfl rfl (ltb rfl) ?_
  refine run_ops_nil ?_
  refine run_block ?_
  refine run_sub_code (σ' := ⟨[(3, .optr (.loc 3) 0 0), (4, .optr (.loc 4) 0 0), (5, .int .i64 i3), (7, .optr (.loc 7) 0 0), (8, .osl (.loc 24)), (9, .int .i64 (IntKind.i64.wrap (i3 - 1)))], [(24, ⟨25, 4, false, cellss ks19⟩), (7, ⟨25, 4, true, [[.int .i64 k19, .int .i64 n19, .str s19, .imm q19 4 f19 (cellss ks19)]]⟩), (4, ⟨25, 4, true, [[.int .i64 0, .int .i64 0, .str ⟨#[]⟩, .imm 0 4 true []]]⟩), (3, ⟨25, 4, true, [[.int .i64 k2, .int .i64 n2, .str s2, .imm q2 4 f2 (cellss ks2)]]⟩)], [], O, tk16⟩) (Sub.trans (Sub.drop (k := 6) rfl) (Sub.trans (Sub.drop (k := 2) rfl) (Sub.env _ ⟨rfl, rfl, rfl, rfl, rfl, rfl, trivial⟩))) ?_
  refine run_rounds (fun m σ => ∃ (i22 : Int) (i23 : Int) (i24 : Int) (t25 : ByteArray) (q26 : Nat) (f26 : Bool) (ks26 : List LT) (ks27 : List LT) (tks_l03Long_L2 : Nat), tk16 ≤ tks_l03Long_L2 ∧ Fr tks_l03Long_L1 tks_l03Long_L2 (ttoks ks27) ∧ s_l03Long_L2 (s_l03Long n) n i3 (T.mk k19 n19 s19 (ers ks19)) m i22 i23 i24 t25 (ers ks26) (ers ks27) = some r ∧ σ = ⟨[(3, .optr (.loc 3) 0 0), (4, .optr (.loc 4) 0 0), (5, .int .i64 i3), (7, .optr (.loc 7) 0 0), (8, .osl (.loc 24)), (9, .int .i64 i22)], [(24, ⟨25, 4, false, cellss ks27⟩), (7, ⟨25, 4, true, [[.int .i64 k19, .int .i64 n19, .str s19, .imm q19 4 f19 (cellss ks19)]]⟩), (4, ⟨25, 4, true, [[.int .i64 0, .int .i64 0, .str ⟨#[]⟩, .imm 0 4 true []]]⟩), (3, ⟨25, 4, true, [[.int .i64 i23, .int .i64 i24, .str t25, .imm q26 4 f26 (cellss ks26)]]⟩)], [], O, tks_l03Long_L2⟩) n (Sub.env [(3, .optr (.loc 3) 0 0), (4, .optr (.loc 4) 0 0), (5, .int .i64 i3), (7, .optr (.loc 7) 0 0), (8, .osl (.loc 24)), (9, .int .i64 (IntKind.i64.wrap (i3 - 1)))] ⟨rfl, rfl, rfl, rfl, rfl, rfl, trivial⟩) ⟨(IntKind.i64.wrap (i3 - 1)), k2, n2, s2, q2, f2, ks2, ks19, tk16, Nat.le_refl _, (show Fr tks_l03Long_L1 tk16 _ from (Fr.tkids (show Fr tks_l03Long_L1 tk16 _ from (show Fr tks_l03Long_L1 tk16 _ from hf20 rfl))).mono (by omega) (by omega)), hM, rfl⟩ (fun m σ hI => ?_)
  clear hM
  obtain ⟨i22, i23, i24, t25, q26, f26, ks26, ks27, tks_l03Long_L2, hle55, hfr27, hM, rfl⟩ := hI
  obtain _ | m := m
  ·exact absurd hM (by rw [s_l03Long_L2]; exact fun h => by cases h)
  rw [s_l03Long_L2] at hM
  refine run_seq ?_
  refine run_sr ?_
  refine mvL rfl rfl rfl rfl (ltb rfl) ?_
  refine run_bin rfl rfl rfl rfl rfl rfl rfl (ltb rfl) ?_
  refine run_ops_nil ?_
  refine run_ifd rfl rfl (fun hb28 => ?_) (fun hb28 => ?_)
  ·replace hM := ite_t hb28 hM
   refine run_skip ?_
   refine run_seq ?_
   refine run_block ?_
   refine run_seq ?_
   refine run_draw [.loc 24] (n := 11) mixed rfl (by intro x hx; simp only [List.mem_cons, List.not_mem_nil, or_false] at hx; rcases hx with rfl <;> rfl) ?_
   refine AAny.take (i := 0) rfl (by kernel_rfl) (by kernel_rfl) (by kernel_rfl) rfl rfl (ltb rfl) ((move_step (.inl rfl) rfl).rd _) ?_
   refine AAny.take (i := 1) rfl (by kernel_rfl) (by kernel_rfl) (by kernel_rfl) rfl rfl (ltb rfl) ((move_step (.inl rfl) rfl).rd _) ?_
   refine AAny.take (i := 3) rfl (by kernel_rfl) (by kernel_rfl) (by kernel_rfl) rfl rfl (ltb rfl) ((fieldAddr_step hG rfl rfl rfl rfl rfl).rd _) ?_
   refine AAny.take (i := 4) rfl (by kernel_rfl) (by kernel_rfl) (by kernel_rfl) rfl rfl (ltb rfl) (aload_rd hG rfl rfl rfl (by first | (simp [ldok]; done) | exact List.not_mem_nil | trivial)) ?_
   obtain ⟨y29, hy30, hM⟩ := bind_t hM
   obtain ⟨k31, n31, s31, q31, f31, ks31, rfl, hc32, hi33⟩ := tidx (ks := ks26) hy30
   refine AAny.take (i := 5) rfl (by kernel_rfl) (by kernel_rfl) (by kernel_rfl) rfl rfl (ltb rfl) ((indexImm_step hG rfl rfl rfl hi33 rfl rfl rfl rfl hc32).rd _) ?_
   refine AAny.take (i := 6) rfl (by kernel_rfl) (by kernel_rfl) (by kernel_rfl) rfl rfl (ltb rfl) (aload_rd hG rfl rfl rfl (by first | (simp [ldok]; done) | exact List.not_mem_nil | trivial)) ?_
   refine AAny.one (i := 2) (by kernel_rfl) (AOp.call rfl rfl rfl rfl (ltb rfl) rfl rfl rfl (fun _ h => absurd h List.not_mem_nil) (fun _ h => absurd h List.not_mem_nil) (ACalls.args (args' := [.int .i64 i22, .imm 0 4 true (cellss [])]) rfl (s_l01Var_ex i22 0 true [] _ _)) (callK_retN ?_))
   skip
   obtain ⟨r34, hg35, hM⟩ := bind_t hM
   refine AAny.one (i := 7) (by kernel_rfl) (AOp.call rfl rfl rfl rfl (ltb rfl) rfl rfl rfl (fun _ h => absurd h List.not_mem_nil) (fun _ h => absurd h List.not_mem_nil) (ih_s_l03Long 5 i22 ⟨#[]⟩ 0 true [] k31 n31 s31 q31 f31 ks31 hg35 _ _) (callK_retX (fun v tk36 (hle37 : tks_l03Long_L2 ≤ tk36) h38 => ?_)))
   obtain ⟨k39, n39, s39, q39, f39, ks39, rfl, rfl, hf40⟩ := h38
   refine AAny.one (i := 8) (by kernel_rfl) (AOp.step rfl rfl rfl (ltb rfl) (buildSlice_step (d := 42) hG rfl rfl rfl rfl rfl (by rfl) (by rfl) (by rfl) (by decide)) (fun _ h => absurd h List.not_mem_nil) ?_)
   obtain ⟨hc41, hM⟩ := chk_t hM
   try rw [show ((ers ks27) ++ [(T.mk k39 n39 s39 (ers ks39))] : List T) = (ers (ks27 ++ [LT.mk k39 n39 s39 q39 f39 ks39])) from ers_app ks27 [LT.mk k39 n39 s39 q39 f39 ks39]] at hM
   refine AAny.one (i := 9) (by kernel_rfl) (AOp.step rfl rfl rfl (ltb rfl) (appendM_step hG rfl rfl rfl rfl rfl rfl rfl rfl rfl rfl rfl (cellss_sz ([LT.mk k39 n39 s39 q39 f39 ks39])) (tlen ks27) (tlen ([LT.mk k39 n39 s39 q39 f39 ks39])) hc41 (by decide) (cellss_app _ _)) (by intro x hx; simp only [List.mem_cons, List.not_mem_nil, or_false] at hx; subst hx; simp) ?_)
   refine AAny.take (i := 10) rfl (by kernel_rfl) (by kernel_rfl) (by kernel_rfl) rfl rfl (ltb rfl) ((move_step (.inr rfl) rfl).rd _) ?_
   refine AAny.done (by kernel_rfl) ?_
   refine run_region ?_
   refine run_pu rfl (fieldAddr_step hG rfl rfl rfl rfl rfl) rfl (ltb rfl) ?_
   refine run_ld hG rfl rfl rfl rfl rfl (ltb rfl) ?_
   obtain ⟨y42, hy43, hM⟩ := bind_t hM
   obtain ⟨k44, n44, s44, q44, f44, ks44, rfl, hc45, hi46⟩ := tidx (ks := ks26) hy43
   refine run_pu rfl (indexImm_step hG rfl rfl rfl hi46 rfl rfl rfl rfl hc45) rfl (ltb rfl) ?_
   refine run_ld hG rfl rfl rfl rfl rfl (ltb rfl) ?_
   refine run_op0 rfl (store_step hG rfl rfl rfl rfl rfl rfl rfl rfl) rfl ?_
   refine run_ops_nil ?_
   refine run_blk ?_
   refine run_sub_code (σ' := ⟨[(3, .optr (.loc 3) 0 0), (4, .optr (.loc 4) 0 0), (5, .int .i64 i3), (7, .optr (.loc 7) 0 0), (8, .osl (.loc 24)), (9, .int .i64 i22)], [(24, ⟨25, 4, false, cellss (ks27 ++ [LT.mk k39 n39 s39 q39 f39 ks39])⟩), (7, ⟨25, 4, true, [[.int .i64 k19, .int .i64 n19, .str s19, .imm q19 4 f19 (cellss ks19)]]⟩), (4, ⟨25, 4, true, [[.int .i64 0, .int .i64 0, .str ⟨#[]⟩, .imm 0 4 true []]]⟩), (3, ⟨25, 4, true, [[.int .i64 k44, .int .i64 n44, .str s44, .imm q44 4 f44 (cellss ks44)]]⟩)], [], O, tk36⟩) (Sub.trans (Sub.drop (k := 42) rfl) (Sub.env _ ⟨rfl, rfl, rfl, rfl, rfl, rfl, trivial⟩)) ?_
   refine run_region ?_
   refine mvL rfl rfl rfl rfl (ltb rfl) ?_
   refine run_bin rfl rfl rfl rfl rfl rfl rfl (ltb rfl) ?_
   refine mvR rfl rfl rfl rfl (ltb rfl) ?_
   refine run_ops_nil ?_
   exact run_loop_end ⟨m, _, Nat.lt_succ_self _, ⟨(IntKind.i64.wrap (i22 - 1)), k44, n44, s44, q44, f44, ks44, (ks27 ++ [LT.mk k39 n39 s39 q39 f39 ks39]), tk36, (show tk16 ≤ tk36 by omega), (show Fr tks_l03Long_L1 tk36 _ from (Fr.tsnoc (show Fr tks_l03Long_L1 tks_l03Long_L2 _ from (hfr27).mono (by omega) (by omega)) ((show Fr tks_l03Long_L2 tk36 _ from hf40 rfl)) (by omega) (by omega)).mono (by omega) (by omega)), hM, rfl⟩, Sub.env [(3, .optr (.loc 3) 0 0), (4, .optr (.loc 4) 0 0), (5, .int .i64 i3), (7, .optr (.loc 7) 0 0), (8, .osl (.loc 24)), (9, .int .i64 (IntKind.i64.wrap (i22 - 1)))] ⟨rfl, rfl, rfl, rfl, rfl, rfl, trivial⟩⟩
  ·replace hM := ite_f hb28 hM
   refine run_exit_to rfl ?_
   refine run_sr ?_
   refine run_ld hG rfl rfl rfl rfl rfl (ltb rfl) ?_
   refine mvL rfl rfl rfl rfl (ltb rfl) ?_
   refine run_sub_ops (Sub.freeze (k := 24) rfl rfl) ?_
   refine run_call rfl rfl rfl (ltb rfl) rfl rfl rfl (fun _ h => absurd h List.not_mem_nil) (s_l01With_ex k19 n19 s19 q19 f19 ks19 tks_l03Long_L2 false ks27 _ _) (callK_retN ?_)
   skip
   refine run_op0 rfl (store_step hG rfl rfl rfl rfl rfl rfl rfl rfl) rfl ?_
   refine run_ops_nil ?_
   refine run_seq ?_
   refine run_block ?_
   refine run_rounds (fun m σ => ∃ (i47 : Int) (i48 : Int) (i49 : Int) (t50 : ByteArray) (q51 : Nat) (f51 : Bool) (ks51 : List LT) (tks_l03Long_L3 : Nat), (tks_l03Long_L2 + 1) ≤ tks_l03Long_L3 ∧ Fr tks_l03Long_L1 tks_l03Long_L3 (tstoks q51 ks51) ∧ s_l03Long_L3 m i47 i48 i49 t50 (ers ks51) = some r ∧ σ = ⟨[(4, .optr (.loc 4) 0 0), (5, .int .i64 i47), (7, .optr (.loc 7) 0 0)], [(7, ⟨25, 4, true, [[.int .i64 i48, .int .i64 i49, .str t50, .imm q51 4 f51 (cellss ks51)]]⟩), (4, ⟨25, 4, true, [[.int .i64 0, .int .i64 0, .str ⟨#[]⟩, .imm 0 4 true []]]⟩), (3, ⟨25, 4, true, [[.int .i64 i23, .int .i64 i24, .str t25, .imm q26 4 f26 (cellss ks26)]]⟩)], [], O, tks_l03Long_L3⟩) n (Sub.env [(4, .optr (.loc 4) 0 0), (5, .int .i64 i3), (7, .optr (.loc 7) 0 0)] ⟨rfl, rfl, rfl, trivial⟩) ⟨i3, k19, n19, s19, tks_l03Long_L2, false, ks27, (tks_l03Long_L2 + 1), Nat.le_refl _, (show Fr tks_l03Long_L1 (tks_l03Long_L2 + 1) _ from (show Fr tks_l03Long_L1 (tks_l03Long_L2 + 1) _ from Fr.tstop (show Fr tks_l03Long_L1 tks_l03Long_L2 _ from (hfr27).mono (by omega) (by omega)) (by omega) (by omega)).mono (by omega) (by omega)), hM, rfl⟩ (fun m σ hI => ?_)
   clear hM
   obtain ⟨i47, i48, i49, t50, q51, f51, ks51, tks_l03Long_L3, hle54, hfr52, hM, rfl⟩ := hI
   obtain _ | m := m
   ·exact absurd hM (by rw [s_l03Long_L3]; exact fun h => by cases h)
   rw [s_l03Long_L3] at hM
   refine run_seq ?_
   refine run_sr ?_
   refine mvL rfl rfl rfl rfl (ltb rfl) ?_
   refine run_bin rfl rfl rfl rfl rfl rfl rfl (ltb rfl) ?_
   refine run_ops_nil ?_
   refine run_ifd rfl rfl (fun hb53 => ?_) (fun hb53 => ?_)
   ·replace hM := ite_t hb53 hM
    refine run_skip ?_
    refine run_seq ?_
    refine run_block ?_
    refine run_region ?_
    refine run_ld hG rfl rfl rfl rfl rfl (ltb rfl) ?_
    refine run_call rfl rfl rfl (ltb rfl) rfl rfl rfl (fun _ h => absurd h List.not_mem_nil) (s_l01Lam_ex i48 i49 t50 q51 f51 ks51 _ _) (callK_retN ?_)
    skip
    refine run_op0 rfl (store_step hG rfl rfl rfl rfl rfl rfl rfl rfl) rfl ?_
    refine run_ops_nil ?_
    refine run_blk ?_
    refine run_region ?_
    refine mvL rfl rfl rfl rfl (ltb rfl) ?_
    refine run_bin rfl rfl rfl rfl rfl rfl rfl (ltb rfl) ?_
    refine mvR rfl rfl rfl rfl (ltb rfl) ?_
    refine run_ops_nil ?_
    exact run_loop_end ⟨m, _, Nat.lt_succ_self _, ⟨(IntKind.i64.wrap (i47 - 1)), 4, 0, ⟨#[]⟩, tks_l03Long_L3, false, [LT.mk i48 i49 t50 q51 f51 ks51], (tks_l03Long_L3 + 1), (show (tks_l03Long_L2 + 1) ≤ (tks_l03Long_L3 + 1) by omega), (show Fr tks_l03Long_L1 (tks_l03Long_L3 + 1) _ from (show Fr tks_l03Long_L1 (tks_l03Long_L3 + 1) _ from Fr.tstop (show Fr tks_l03Long_L1 tks_l03Long_L3 _ from (Fr.tcons (hfr52) (show Fr tks_l03Long_L3 tks_l03Long_L3 _ from Fr.nil _ _) (by omega) (by omega)).mono (by omega) (by omega)) (by omega) (by omega)).mono (by omega) (by omega)), hM, rfl⟩, Sub.env [(4, .optr (.loc 4) 0 0), (5, .int .i64 (IntKind.i64.wrap (i47 - 1))), (7, .optr (.loc 7) 0 0)] ⟨rfl, rfl, rfl, trivial⟩⟩
   ·replace hM := ite_f hb53 hM
    refine run_exit_to rfl ?_
    refine run_sr ?_
    refine run_ld hG rfl rfl rfl rfl rfl (ltb rfl) ?_
    refine run_op0 rfl (store_step hG rfl rfl rfl rfl rfl rfl rfl rfl) rfl ?_
    refine run_ops_nil ?_
    refine run_ret_to ?_
    obtain rfl := some_t hM
    refine fin_x hG rfl rfl rfl (v' := .agg [.int .i64 i48, .int .i64 i49, .str t50, .imm q51 4 f51 (cellss ks51)]) (by rfl) ⟨rfl, (show tk ≤ tks_l03Long_L3 by omega), _, rfl, ⟨i48, i49, t50, q51, f51, ks51, rfl, rfl, fun _ => (show Fr tk tks_l03Long_L3 _ from (hfr52).mono (by omega) (by omega))⟩⟩

theorem s_l03Long_all : ∀ (n : Nat), (∀ (k1 : Int) (n1 : Int) (s1 : ByteArray) (q1 : Nat) (f1 : Bool) (ks1 : List LT) (k2 : Int) (n2 : Int) (s2 : ByteArray) (q2 : Nat) (f2 : Bool) (ks2 : List LT) {r : T}, s_l03Long n (T.mk k1 n1 s1 (ers ks1)) (T.mk k2 n2 s2 (ers ks2)) = some r → ∀ (O : Heap) (tk : Nat), ACalls Go.Proofs.Tryd.prog 53 [.agg [.int .i64 k1, .int .i64 n1, .str s1, .imm q1 4 f1 (cellss ks1)], .agg [.int .i64 k2, .int .i64 n2, .str s2, .imm q2 4 f2 (cellss ks2)]] O tk (RetX O tk (fun v tk' => VT true tk tk' r v)))
 | 0 => by intro k1 n1 s1 q1 f1 ks1 k2 n2 s2 q2 f2 ks2 r hM; rw [s_l03Long] at hM; cases hM
 | n + 1 => have ih := s_l03Long_all n; s_l03Long_st n (ih)

theorem s_l03Long_ok (n : Nat) : ∀ (k1 : Int) (n1 : Int) (s1 : ByteArray) (q1 : Nat) (f1 : Bool) (ks1 : List LT) (k2 : Int) (n2 : Int) (s2 : ByteArray) (q2 : Nat) (f2 : Bool) (ks2 : List LT) {r : T}, s_l03Long n (T.mk k1 n1 s1 (ers ks1)) (T.mk k2 n2 s2 (ers ks2)) = some r → ∀ (O : Heap) (tk : Nat), ACalls Go.Proofs.Tryd.prog 53 [.agg [.int .i64 k1, .int .i64 n1, .str s1, .imm q1 4 f1 (cellss ks1)], .agg [.int .i64 k2, .int .i64 n2, .str s2, .imm q2 4 f2 (cellss ks2)]] O tk (RetX O tk (fun v tk' => VT true tk tk' r v)) := s_l03Long_all n

def s_l03Big (n : Nat) (x1 : T) : Option Bool :=
 (s_l01Small n x1).bind fun r2 =>
 if (!r2) = true then
  some true
 else
  (s_l01High n x1).bind fun r10 =>
  some r10

set_option maxRecDepth 100000 in
theorem s_l03Big_ok (n : Nat) : ∀ (k1 : Int) (n1 : Int) (s1 : ByteArray) (q1 : Nat) (f1 : Bool) (ks1 : List LT) {r : Bool}, s_l03Big n (T.mk k1 n1 s1 (ers ks1)) = some r → ∀ (O : Heap) (tk : Nat), ACalls Go.Proofs.Tryd.prog 55 [.agg [.int .i64 k1, .int .i64 n1, .str s1, .imm q1 4 f1 (cellss ks1)]] O tk (RetX O tk (fun v tk' => v = .bool r)) := by
 intro k1 n1 s1 q1 f1 ks1 r hM O tk
 unfold s_l03Big at hM
 refine acalls_of_run Go.Proofs.Tryd.func55 rfl rfl [] [] (Bor.nil _) [(0, .agg [.int .i64 k1, .int .i64 n1, .str s1, .imm q1 4 f1 (cellss ks1)])] (.cons (.agg _) (.nil _)) (leb rfl) (fun _ h => by cases h) (fun S0 hO htk hfz => ?_)
 refine run_sr ?_
 refine run_op rfl (box_step (d := 1) rfl rfl rfl rfl rfl) rfl (ltb rfl) ?_
 refine mvR rfl rfl rfl rfl (ltb rfl) ?_
 refine run_ops_nil ?_
 refine run_sr ?_
 refine run_ld hG rfl rfl rfl rfl rfl (ltb rfl) ?_
 obtain ⟨r2, hg3, hM⟩ := bind_t hM
 refine run_call rfl rfl rfl (ltb rfl) rfl rfl rfl (fun _ h => absurd h List.not_mem_nil) (s_l01Small_ok n k1 n1 s1 q1 f1 ks1 hg3 _ _) (callK_retX (fun v tk4 (hle5 : tk ≤ tk4) h6 => ?_))
 subst h6
 refine run_pu rfl (aun_step rfl rfl rfl) rfl (ltb rfl) ?_
 refine mvL rfl rfl rfl rfl (ltb rfl) ?_
 refine run_splitb (i := 6) rfl (fun hb9 => ?_) (fun hb9 => ?_)
 ·replace hM := ite_t hb9 hM
  refine run_off (on_of rfl rfl rfl rfl) rfl (ltb rfl) ?_
  refine run_off (on_of rfl rfl rfl rfl) rfl (ltb rfl) ?_
  refine run_pu rfl (pick_step rfl rfl rfl) rfl (ltb rfl) ?_
  refine mvR rfl rfl rfl rfl (ltb rfl) ?_
  refine run_ops_nil ?_
  refine run_ret_to ?_
  obtain rfl := some_t hM
  refine fin_x hG rfl rfl rfl (v' := .bool true) (by rfl) ⟨rfl, (show tk ≤ tk4 by omega), _, rfl, rfl⟩
 ·replace hM := ite_f hb9 hM
  refine run_rdG (on_of rfl rfl rfl rfl) (aload_rd hG rfl rfl rfl (by first | (simp [ldok]; done) | exact List.not_mem_nil | trivial)) rfl (ltb rfl) ?_
  obtain ⟨r10, hg11, hM⟩ := bind_t hM
  refine run_callG (on_of rfl rfl rfl rfl) rfl rfl (ltb rfl) rfl rfl rfl (fun _ h => absurd h List.not_mem_nil) (s_l01High_ok n k1 n1 s1 q1 f1 ks1 hg11 _ _) (callK_retX (fun v tk12 (hle13 : tk4 ≤ tk12) h14 => ?_))
  subst h14
  refine run_pu rfl (pick_step rfl rfl rfl) rfl (ltb rfl) ?_
  refine mvR rfl rfl rfl rfl (ltb rfl) ?_
  refine run_ops_nil ?_
  refine run_ret_to ?_
  obtain rfl := some_t hM
  refine fin_x hG rfl rfl rfl (v' := .bool r10) (by rfl) ⟨rfl, (show tk ≤ tk12 by omega), _, rfl, rfl⟩

def s_Long (n : Nat) (i1 : Int) (x2 : T) : Option (T × Int) :=
 (s_SimpleOK n x2).bind fun r3 =>
 if (!r3) = true then
  some ((T.mk 0 0 ⟨#[]⟩ []), 1)
 else
  if i1 < 0 then
   some ((T.mk 0 0 ⟨#[]⟩ []), 16)
  else
   if i1 > 100 then
    some ((T.mk 0 0 ⟨#[]⟩ []), 16)
   else
    (s_l03Long n (T.mk 5 i1 ⟨#[]⟩ []) x2).bind fun r13 =>
    (s_l03Big n r13).bind fun r20 =>
    if r20 = true then
     some ((T.mk 0 0 ⟨#[]⟩ []), 11)
    else
     some (r13, 0)

set_option maxRecDepth 100000 in
theorem s_Long_ok (n : Nat) : ∀ (i1 : Int) (k2 : Int) (n2 : Int) (s2 : ByteArray) (q2 : Nat) (f2 : Bool) (ks2 : List LT) {r : (T × Int)}, s_Long n i1 (T.mk k2 n2 s2 (ers ks2)) = some r → ∀ (O : Heap) (tk : Nat), ACalls Go.Proofs.Tryd.prog 21 [.int .i64 i1, .agg [.int .i64 k2, .int .i64 n2, .str s2, .imm q2 4 f2 (cellss ks2)]] O tk (RetX O tk (fun v tk' => ∃ r0' r1' v0' v1', r = (r0', r1') ∧ v = .tup [v0', v1'] ∧ VT true tk tk' r0' v0' ∧ v1' = .int .i64 r1')) := by
 intro i1 k2 n2 s2 q2 f2 ks2 r hM O tk
 unfold s_Long at hM
 refine acalls_of_run Go.Proofs.Tryd.func21 rfl rfl [] [] (Bor.nil _) [(0, .int .i64 i1), (1, .agg [.int .i64 k2, .int .i64 n2, .str s2, .imm q2 4 f2 (cellss ks2)])] (.cons (entS rfl) (.cons (.agg _) (.nil _))) (leb rfl) (fun _ h => by cases h) (fun S0 hO htk hfz => ?_)
 refine run_sr ?_
 refine run_op rfl (box_step (d := 3) rfl rfl rfl rfl rfl) rfl (ltb rfl) ?_
 refine run_op rfl (alloc_step (d := 4) hG rfl rfl rfl) rfl (ltb rfl) ?_
 refine mvR rfl rfl rfl rfl (ltb rfl) ?_
 refine run_ops_nil ?_
 refine run_seq ?_
 refine run_sr ?_
 refine run_ld hG rfl rfl rfl rfl rfl (ltb rfl) ?_
 obtain ⟨r3, hg4, hM⟩ := bind_t hM
 refine run_call rfl rfl rfl (ltb rfl) rfl rfl rfl (fun _ h => absurd h List.not_mem_nil) (s_SimpleOK_ok n k2 n2 s2 q2 f2 ks2 hg4 _ _) (callK_retX (fun v tk5 (hle6 : tk ≤ tk5) h7 => ?_))
 subst h7
 refine run_pu rfl (aun_step rfl rfl rfl) rfl (ltb rfl) ?_
 refine run_ops_nil ?_
 refine run_ifb rfl rfl (fun hb10 => ?_) (fun hb10 => ?_)
 ·replace hM := ite_t hb10 hM
  refine run_sr ?_
  refine run_pu rfl (build_step hG rfl (by rfl) rfl (fun h => by cases h) (by rfl)) rfl (ltb rfl) ?_
  refine run_op0 rfl (store_step hG rfl rfl rfl rfl rfl rfl rfl rfl) rfl ?_
  refine mvR rfl rfl rfl rfl (ltb rfl) ?_
  refine run_ops_nil ?_
  refine run_ret_to ?_
  obtain rfl := some_t hM
  refine fin_x hG rfl rfl rfl (v' := .tup [.agg [.int .i64 0, .int .i64 0, .str ⟨#[]⟩, .imm 0 4 true (cellss [])], .int .i64 1]) (by rfl) ⟨rfl, (show tk ≤ tk5 by omega), _, rfl, ⟨_, _, _, _, rfl, rfl, ⟨0, 0, ⟨#[]⟩, 0, true, [], rfl, rfl, fun _ => Fr.nil _ _⟩, rfl⟩⟩
 ·replace hM := ite_f hb10 hM
  refine run_skip ?_
  refine run_seq ?_
  refine run_sr ?_
  refine mvL rfl rfl rfl rfl (ltb rfl) ?_
  refine run_bin rfl rfl rfl rfl rfl rfl rfl (ltb rfl) ?_
  refine mvL rfl rfl rfl rfl (ltb rfl) ?_
  refine run_splitd (i := 13) rfl (fun hb11 => ?_) (fun hb11 => ?_)
  ·replace hM := ite_t hb11 hM
   refine run_off (on_of rfl rfl rfl rfl) rfl (ltb rfl) ?_
   refine run_off (on_of rfl rfl rfl rfl) rfl (ltb rfl) ?_
   refine run_pu rfl (pick_step rfl rfl rfl) rfl (ltb rfl) ?_
   refine run_ops_nil ?_
   refine run_if rfl rfl (fun _ => ?_) (fun h => by cases h)
   refine run_sr ?_
   refine run_pu rfl (build_step hG rfl (by rfl) rfl (fun h => by cases h) (by rfl)) rfl (ltb rfl) ?_
   refine run_op0 rfl (store_step hG rfl rfl rfl rfl rfl rfl rfl rfl) rfl ?_
   refine mvR rfl rfl rfl rfl (ltb rfl) ?_
   refine run_ops_nil ?_
   refine run_ret_to ?_
   obtain rfl := some_t hM
   refine fin_x hG rfl rfl rfl (v' := .tup [.agg [.int .i64 0, .int .i64 0, .str ⟨#[]⟩, .imm 0 4 true (cellss [])], .int .i64 16]) (by rfl) ⟨rfl, (show tk ≤ tk5 by omega), _, rfl, ⟨_, _, _, _, rfl, rfl, ⟨0, 0, ⟨#[]⟩, 0, true, [], rfl, rfl, fun _ => Fr.nil _ _⟩, rfl⟩⟩
  ·replace hM := ite_f hb11 hM
   refine run_puG (on_of rfl rfl rfl rfl) (move_step (.inl rfl) rfl) rfl (ltb rfl) ?_
   refine run_puG (on_of rfl rfl rfl rfl) (abin_step rfl rfl rfl rfl (fun _ h => by cases h)) rfl (ltb rfl) ?_
   refine run_pu rfl (pick_step rfl rfl rfl) rfl (ltb rfl) ?_
   refine run_ops_nil ?_
   refine run_ifd rfl rfl (fun hb12 => ?_) (fun hb12 => ?_)
   ·replace hM := ite_t hb12 hM
    refine run_sr ?_
    refine run_pu rfl (build_step hG rfl (by rfl) rfl (fun h => by cases h) (by rfl)) rfl (ltb rfl) ?_
    refine run_op0 rfl (store_step hG rfl rfl rfl rfl rfl rfl rfl rfl) rfl ?_
    refine mvR rfl rfl rfl rfl (ltb rfl) ?_
    refine run_ops_nil ?_
    refine run_ret_to ?_
    obtain rfl := some_t hM
    refine fin_x hG rfl rfl rfl (v' := .tup [.agg [.int .i64 0, .int .i64 0, .str ⟨#[]⟩, .imm 0 4 true (cellss [])], .int .i64 16]) (by rfl) ⟨rfl, (show tk ≤ tk5 by omega), _, rfl, ⟨_, _, _, _, rfl, rfl, ⟨0, 0, ⟨#[]⟩, 0, true, [], rfl, rfl, fun _ => Fr.nil _ _⟩, rfl⟩⟩
   ·replace hM := ite_f hb12 hM
    refine run_skip ?_
    refine run_seq ?_
    refine run_draw [] (n := 6) mixed rfl (fun _ h => absurd h List.not_mem_nil) ?_
    refine AAny.take (i := 0) rfl (by kernel_rfl) (by kernel_rfl) (by kernel_rfl) rfl rfl (ltb rfl) ((move_step (.inl rfl) rfl).rd _) ?_
    refine AAny.take (i := 2) rfl (by kernel_rfl) (by kernel_rfl) (by kernel_rfl) rfl rfl (ltb rfl) (aload_rd hG rfl rfl rfl (by first | (simp [ldok]; done) | exact List.not_mem_nil | trivial)) ?_
    refine AAny.eachN (rs := [1, 4]) (by kernel_rfl) (fun h => by cases h) (fun i hi => ?_)
    simp only [List.mem_cons, List.not_mem_nil, or_false] at hi
    rcases hi with rfl | rfl
    ·refine AOpN.of ?_
     refine AOp.call rfl rfl rfl rfl (ltb rfl) rfl rfl rfl (fun _ h => absurd h List.not_mem_nil) (fun _ h => absurd h List.not_mem_nil) (ACalls.args (args' := [.int .i64 i1, .imm 0 4 true (cellss [])]) rfl (s_l01Var_ex i1 0 true [] _ _)) (callK_retN ?_)
     skip
     refine AAny.eachN (rs := [3, 4]) (by kernel_rfl) (fun h => by cases h) (fun i hi => ?_)
     simp only [List.mem_cons, List.not_mem_nil, or_false] at hi
     rcases hi with rfl | rfl
     ·refine AOpN.of ?_
      obtain ⟨r13, hg14, hM⟩ := bind_t hM
      refine AOp.call rfl rfl rfl rfl (ltb rfl) rfl rfl rfl (fun _ h => absurd h List.not_mem_nil) (fun _ h => absurd h List.not_mem_nil) (s_l03Long_ok n 5 i1 ⟨#[]⟩ 0 true [] k2 n2 s2 q2 f2 ks2 hg14 _ _) (callK_retX (fun v tk15 (hle16 : tk5 ≤ tk15) h17 => ?_))
      obtain ⟨k18, n18, s18, q18, f18, ks18, rfl, rfl, hf19⟩ := h17
      refine AAny.eachN (rs := [4]) (by kernel_rfl) (fun h => by cases h) (fun i hi => ?_)
      simp only [List.mem_cons, List.not_mem_nil, or_false] at hi
      subst hi
      ·refine AOpN.alloc hG rfl rfl rfl (ltb rfl) rfl rfl rfl ?_
       refine AAny.one (i := 5) (by kernel_rfl) (AOp.step0 rfl rfl rfl (store_step hG rfl rfl rfl rfl rfl rfl rfl rfl) (by intro x hx; have hx : x ∈ [ID.loc 6] := hx; simp only [List.mem_cons, List.not_mem_nil, or_false] at hx; subst hx; simp) ?_)
       refine AAny.done (by kernel_rfl) ?_
       refine run_sub_code (σ' := ⟨[(4, .optr (.loc 4) 0 0), (5, .int .i64 0), (6, .optr (.loc 6) 0 0)], [(6, ⟨25, 4, true, [[.int .i64 k18, .int .i64 n18, .str s18, .imm q18 4 f18 (cellss ks18)]]⟩), (4, ⟨25, 4, true, [[.int .i64 0, .int .i64 0, .str ⟨#[]⟩, .imm 0 4 true []]]⟩)], [], O, tk15⟩) (Sub.trans (Sub.drop (k := 3) rfl) (Sub.env _ ⟨rfl, rfl, rfl, trivial⟩)) ?_
       refine run_seq ?_
       refine run_sr ?_
       refine run_ld hG rfl rfl rfl rfl rfl (ltb rfl) ?_
       obtain ⟨r20, hg21, hM⟩ := bind_t hM
       refine run_call rfl rfl rfl (ltb rfl) rfl rfl rfl (fun _ h => absurd h List.not_mem_nil) (s_l03Big_ok n k18 n18 s18 q18 f18 ks18 hg21 _ _) (callK_retX (fun v tk22 (hle23 : tk15 ≤ tk22) h24 => ?_))
       subst h24
       refine run_ops_nil ?_
       refine run_ifb rfl rfl (fun hb27 => ?_) (fun hb27 => ?_)
       ·replace hM := ite_t hb27 hM
        refine run_sr ?_
        refine run_pu rfl (build_step hG rfl (by rfl) rfl (fun h => by cases h) (by rfl)) rfl (ltb rfl) ?_
        refine run_op0 rfl (store_step hG rfl rfl rfl rfl rfl rfl rfl rfl) rfl ?_
        refine mvR rfl rfl rfl rfl (ltb rfl) ?_
        refine run_ops_nil ?_
        refine run_ret_to ?_
        obtain rfl := some_t hM
        refine fin_x hG rfl rfl rfl (v' := .tup [.agg [.int .i64 0, .int .i64 0, .str ⟨#[]⟩, .imm 0 4 true (cellss [])], .int .i64 11]) (by rfl) ⟨rfl, (show tk ≤ tk22 by omega), _, rfl, ⟨_, _, _, _, rfl, rfl, ⟨0, 0, ⟨#[]⟩, 0, true, [], rfl, rfl, fun _ => Fr.nil _ _⟩, rfl⟩⟩
       ·replace hM := ite_f hb27 hM
        refine run_skip ?_
        refine run_sr ?_
        refine run_ld hG rfl rfl rfl rfl rfl (ltb rfl) ?_
        refine run_op0 rfl (store_step hG rfl rfl rfl rfl rfl rfl rfl rfl) rfl ?_
        refine mvR rfl rfl rfl rfl (ltb rfl) ?_
        refine run_ops_nil ?_
        refine run_ret_to ?_
        obtain rfl := some_t hM
        refine fin_x hG rfl rfl rfl (v' := .tup [.agg [.int .i64 k18, .int .i64 n18, .str s18, .imm q18 4 f18 (cellss ks18)], .int .i64 0]) (by rfl) ⟨rfl, (show tk ≤ tk22 by omega), _, rfl, ⟨_, _, _, _, rfl, rfl, ⟨k18, n18, s18, q18, f18, ks18, rfl, rfl, fun _ => (show Fr tk tk22 _ from ((show Fr tk5 tk15 _ from hf19 rfl)).mono (by omega) (by omega))⟩, rfl⟩⟩
     ·refine AOpN.alloc hG rfl rfl rfl (ltb rfl) rfl rfl rfl ?_
      obtain ⟨r28, hg29, hM⟩ := bind_t hM
      refine AAny.one (i := 3) (by kernel_rfl) (AOp.call rfl rfl rfl rfl (ltb rfl) rfl rfl rfl (fun _ h => absurd h List.not_mem_nil) (fun _ h => absurd h List.not_mem_nil) (s_l03Long_ok n 5 i1 ⟨#[]⟩ 0 true [] k2 n2 s2 q2 f2 ks2 hg29 _ _) (callK_retX (fun v tk30 (hle31 : tk5 ≤ tk30) h32 => ?_)))
      obtain ⟨k33, n33, s33, q33, f33, ks33, rfl, rfl, hf34⟩ := h32
      refine AAny.one (i := 5) (by kernel_rfl) (AOp.step0 rfl rfl rfl (store_step hG rfl rfl rfl rfl rfl rfl rfl rfl) (by intro x hx; have hx : x ∈ [ID.loc 6] := hx; simp only [List.mem_cons, List.not_mem_nil, or_false] at hx; subst hx; simp) ?_)
      refine AAny.done (by kernel_rfl) ?_
      refine run_sub_code (σ' := ⟨[(4, .optr (.loc 4) 0 0), (5, .int .i64 0), (6, .optr (.loc 6) 0 0)], [(6, ⟨25, 4, true, [[.int .i64 k33, .int .i64 n33, .str s33, .imm q33 4 f33 (cellss ks33)]]⟩), (4, ⟨25, 4, true, [[.int .i64 0, .int .i64 0, .str ⟨#[]⟩, .imm 0 4 true []]]⟩)], [], O, tk30⟩) (Sub.trans (Sub.drop (k := 3) rfl) (Sub.env _ ⟨rfl, rfl, rfl, trivial⟩)) ?_
      refine run_seq ?_
      refine run_sr ?_
      refine run_ld hG rfl rfl rfl rfl rfl (ltb rfl) ?_
      obtain ⟨r35, hg36, hM⟩ := bind_t hM
      refine run_call rfl rfl rfl (ltb rfl) rfl rfl rfl (fun _ h => absurd h List.not_mem_nil) (s_l03Big_ok n k33 n33 s33 q33 f33 ks33 hg36 _ _) (callK_retX (fun v tk37 (hle38 : tk30 ≤ tk37) h39 => ?_))
      subst h39
      refine run_ops_nil ?_
      refine run_ifb rfl rfl (fun hb42 => ?_) (fun hb42 => ?_)
      ·replace hM := ite_t hb42 hM
       refine run_sr ?_
       refine run_pu rfl (build_step hG rfl (by rfl) rfl (fun h => by cases h) (by rfl)) rfl (ltb rfl) ?_
       refine run_op0 rfl (store_step hG rfl rfl rfl rfl rfl rfl rfl rfl) rfl ?_
       refine mvR rfl rfl rfl rfl (ltb rfl) ?_
       refine run_ops_nil ?_
       refine run_ret_to ?_
       obtain rfl := some_t hM
       refine fin_x hG rfl rfl rfl (v' := .tup [.agg [.int .i64 0, .int .i64 0, .str ⟨#[]⟩, .imm 0 4 true (cellss [])], .int .i64 11]) (by rfl) ⟨rfl, (show tk ≤ tk37 by omega), _, rfl, ⟨_, _, _, _, rfl, rfl, ⟨0, 0, ⟨#[]⟩, 0, true, [], rfl, rfl, fun _ => Fr.nil _ _⟩, rfl⟩⟩
      ·replace hM := ite_f hb42 hM
       refine run_skip ?_
       refine run_sr ?_
       refine run_ld hG rfl rfl rfl rfl rfl (ltb rfl) ?_
       refine run_op0 rfl (store_step hG rfl rfl rfl rfl rfl rfl rfl rfl) rfl ?_
       refine mvR rfl rfl rfl rfl (ltb rfl) ?_
       refine run_ops_nil ?_
       refine run_ret_to ?_
       obtain rfl := some_t hM
       refine fin_x hG rfl rfl rfl (v' := .tup [.agg [.int .i64 k33, .int .i64 n33, .str s33, .imm q33 4 f33 (cellss ks33)], .int .i64 0]) (by rfl) ⟨rfl, (show tk ≤ tk37 by omega), _, rfl, ⟨_, _, _, _, rfl, rfl, ⟨k33, n33, s33, q33, f33, ks33, rfl, rfl, fun _ => (show Fr tk tk37 _ from ((show Fr tk5 tk30 _ from hf34 rfl)).mono (by omega) (by omega))⟩, rfl⟩⟩
    ·refine AOpN.alloc hG rfl rfl rfl (ltb rfl) rfl rfl rfl ?_
     refine AAny.one (i := 1) (by kernel_rfl) (AOp.call rfl rfl rfl rfl (ltb rfl) rfl rfl rfl (fun _ h => absurd h List.not_mem_nil) (fun _ h => absurd h List.not_mem_nil) (ACalls.args (args' := [.int .i64 i1, .imm 0 4 true (cellss [])]) rfl (s_l01Var_ex i1 0 true [] _ _)) (callK_retN ?_))
     skip
     obtain ⟨r43, hg44, hM⟩ := bind_t hM
     refine AAny.one (i := 3) (by kernel_rfl) (AOp.call rfl rfl rfl rfl (ltb rfl) rfl rfl rfl (fun _ h => absurd h List.not_mem_nil) (fun _ h => absurd h List.not_mem_nil) (s_l03Long_ok n 5 i1 ⟨#[]⟩ 0 true [] k2 n2 s2 q2 f2 ks2 hg44 _ _) (callK_retX (fun v tk45 (hle46 : tk5 ≤ tk45) h47 => ?_)))
     obtain ⟨k48, n48, s48, q48, f48, ks48, rfl, rfl, hf49⟩ := h47
     refine AAny.one (i := 5) (by kernel_rfl) (AOp.step0 rfl rfl rfl (store_step hG rfl rfl rfl rfl rfl rfl rfl rfl) (by intro x hx; have hx : x ∈ [ID.loc 6] := hx; simp only [List.mem_cons, List.not_mem_nil, or_false] at hx; subst hx; simp) ?_)
     refine AAny.done (by kernel_rfl) ?_
     refine run_sub_code (σ' := ⟨[(4, .optr (.loc 4) 0 0), (5, .int .i64 0), (6, .optr (.loc 6) 0 0)], [(6, ⟨25, 4, true, [[.int .i64 k48, .int .i64 n48, .str s48, .imm q48 4 f48 (cellss ks48)]]⟩), (4, ⟨25, 4, true, [[.int .i64 0, .int .i64 0, .str ⟨#[]⟩, .imm 0 4 true []]]⟩)], [], O, tk45⟩) (Sub.trans (Sub.drop (k := 3) rfl) (Sub.env _ ⟨rfl, rfl, rfl, trivial⟩)) ?_
     refine run_seq ?_
     refine run_sr ?_
     refine run_ld hG rfl rfl rfl rfl rfl (ltb rfl) ?_
     obtain ⟨r50, hg51, hM⟩ := bind_t hM
     refine run_call rfl rfl rfl (ltb rfl) rfl rfl rfl (fun _ h => absurd h List.not_mem_nil) (s_l03Big_ok n k48 n48 s48 q48 f48 ks48 hg51 _ _) (callK_retX (fun v tk52 (hle53 : tk45 ≤ tk52) h54 => ?_))
     subst h54
     refine run_ops_nil ?_
     refine run_ifb rfl rfl (fun hb57 => ?_) (fun hb57 => ?_)
     ·replace hM := ite_t hb57 hM
      refine run_sr ?_
      refine run_pu rfl (build_step hG rfl (by rfl) rfl (fun h => by cases h) (by rfl)) rfl (ltb rfl) ?_
      refine run_op0 rfl (store_step hG rfl rfl rfl rfl rfl rfl rfl rfl) rfl ?_
      refine mvR rfl rfl rfl rfl (ltb rfl) ?_
      refine run_ops_nil ?_
      refine run_ret_to ?_
      obtain rfl := some_t hM
      refine fin_x hG rfl rfl rfl (v' := .tup [.agg [.int .i64 0, .int .i64 0, .str ⟨#[]⟩, .imm 0 4 true (cellss [])], .int .i64 11]) (by rfl) ⟨rfl, (show tk ≤ tk52 by omega), _, rfl, ⟨_, _, _, _, rfl, rfl, ⟨0, 0, ⟨#[]⟩, 0, true, [], rfl, rfl, fun _ => Fr.nil _ _⟩, rfl⟩⟩
     ·replace hM := ite_f hb57 hM
      refine run_skip ?_
      refine run_sr ?_
      refine run_ld hG rfl rfl rfl rfl rfl (ltb rfl) ?_
      refine run_op0 rfl (store_step hG rfl rfl rfl rfl rfl rfl rfl rfl) rfl ?_
      refine mvR rfl rfl rfl rfl (ltb rfl) ?_
      refine run_ops_nil ?_
      refine run_ret_to ?_
      obtain rfl := some_t hM
      refine fin_x hG rfl rfl rfl (v' := .tup [.agg [.int .i64 k48, .int .i64 n48, .str s48, .imm q48 4 f48 (cellss ks48)], .int .i64 0]) (by rfl) ⟨rfl, (show tk ≤ tk52 by omega), _, rfl, ⟨_, _, _, _, rfl, rfl, ⟨k48, n48, s48, q48, f48, ks48, rfl, rfl, fun _ => (show Fr tk tk52 _ from ((show Fr tk5 tk45 _ from hf49 rfl)).mono (by omega) (by omega))⟩, rfl⟩⟩

end Go.Am.YtaedacibojpfkaaDoor
