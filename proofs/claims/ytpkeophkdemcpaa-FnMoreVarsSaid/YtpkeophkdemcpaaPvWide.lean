/- Plain laws: one variable more ahead of all. -/
import Derived.Test.YtpkeophkdemcpaaPvEncT
namespace Go.Am
open Go
theorem tv_wide (x : Pf) : x.exok = true → ∀ (h0 : F) (hs : List F) (at_ : Int) (f : F), x.tv hs at_ = .ok f → x.tv (h0 :: hs) at_ = .ok f := by
 induction x using Pf.ind with
 | _ k n fs ks ih =>
  intro hok h0 hs at_ f h
  rcases exok_rules hok with ⟨rfl, hn0, hn1, rfl, rfl⟩ | ⟨rfl, a, b, rfl, rfl, ha, hb⟩ | ⟨rfl, a, b, rfl, rfl, ha, hb⟩
  ·have hv := tv_var h
   rw [Pf.tv] at h ⊢
   rw [if_neg (by omega)] at h
   rw [if_neg (by simp only [List.length_cons]; omega), show (h0 :: hs).length - 1 - n.toNat = (hs.length - 1 - n.toNat) + 1 by simp only [List.length_cons]; omega, List.getElem?_cons_succ]
   exact h
  ·obtain ⟨g, hg, rfl⟩ := tv_lam h
   have := ih b (by simp) hb h0 _ _ _ hg
   rw [Pf.tv]
   show (match b.tv (h0 :: (hs ++ [fa [a]])) (at_ + 1) with | .stop c p => (Rz.stop c p : Rz F) | .ok f => Rz.ok (F.mk 2 0 [fa [a], f])) = _
   rw [this]
  obtain ⟨g, u, c, h1, h2, hk, hfa, rfl⟩ := tv_app h
  have e1 := tv_any _ _ _ _ (ih a (by simp) ha h0 _ _ _ h1) (at_ + 1)
  have e2 := tv_any _ _ _ _ (ih b (by simp) hb h0 _ _ _ h2) (at_ + 1 + a.psz)
  have hbq : (fa g.kids).beq u = true := by
   rw [Pf.tv, h1] at h
   have h' : (match b.tv hs (at_ + 1 + a.psz) with | .stop c p => (Rz.stop c p : Rz F) | .ok b' => if g.kind = 2 then (if (fa g.kids).beq b' = true then .ok (fb g.kids) else .stop 10 (at_ + 1 + a.psz)) else .stop 8 (at_ + 1)) = .ok (fb g.kids) := h
   rw [tv_any _ _ _ _ h2 (at_ + 1 + a.psz)] at h'
   have h' : (if g.kind = 2 then (if (fa g.kids).beq u = true then Rz.ok (fb g.kids) else Rz.stop 10 (at_ + 1 + a.psz)) else Rz.stop 8 (at_ + 1)) = .ok (fb g.kids) := h'
   rw [if_pos hk] at h'
   split at h'
   ·rename_i q; exact q
   cases h'
  rw [Pf.tv, e1]
  show (match b.tv (h0 :: hs) (at_ + 1 + a.psz) with | .stop c p => (Rz.stop c p : Rz F) | .ok b' => if g.kind = 2 then (if (fa g.kids).beq b' = true then .ok (fb g.kids) else .stop 10 (at_ + 1 + a.psz)) else .stop 8 (at_ + 1)) = _
  rw [e2]
  show (if g.kind = 2 then (if (fa g.kids).beq u = true then Rz.ok (fb g.kids) else Rz.stop 10 (at_ + 1 + a.psz)) else Rz.stop 8 (at_ + 1)) = _
  rw [if_pos hk, if_pos hbq]
end Go.Am
namespace Go.Am.Ytpkeophkdemcpaa
open Go Go.Am

def up2 (ls : List Int) : List Int := ls.map fun l => l + 2
theorem up2_snoc (ls : List Int) (d : Int) : up2 (ls ++ [d]) = up2 ls ++ [d + 2] := by unfold up2; simp
theorem up2_len (ls : List Int) : (up2 ls).length = ls.length := by unfold up2; simp

/-- The term of an expression, and the same in the wider context. -/
theorem wxt_ev (x : Pf) : x.exok = true → ∀ (hs : List F) (at_ : Int) (f : F), x.tv hs at_ = .ok f → ∀ (ls : List Int) (d : Int) (l0 : Int), ls.length = hs.length → (∀ l ∈ ls, 0 ≤ l ∧ l < d) → 0 ≤ d → d + x.size + hs.length ≤ 100000 →
  ∃ t : T, T.nodes t ≤ 2 * x.size ∧ Ev fun n => i_levels_exprTerm n ls x d = some (.ok t) ∧ i_levels_exprTerm n (l0 :: up2 ls) x (d + 2) = some (.ok t) := by
 induction x using Pf.ind with
 | _ k n fs ks ih =>
  intro hok hs at_ f htv ls d l0 hlen hl hd hb
  rcases exok_rules hok with ⟨rfl, hn0, hn1, rfl, rfl⟩ | ⟨rfl, a, b, rfl, rfl, ha, hbk⟩ | ⟨rfl, a, b, rfl, rfl, ha, hbk⟩
  ·have hs1 : (Pf.mk 1 n [] []).size = 1 := by simp only [Pf.size, fsizes, psizes]
   rw [hs1] at hb ⊢
   have hv := tv_var htv
   have w1 : IntKind.i64.wrap ((ls.length : Int) - 1) = (ls.length : Int) - 1 := w64_eq (by omega) (by omega)
   have w2 : IntKind.i64.wrap ((ls.length : Int) - 1 - n) = (ls.length : Int) - 1 - n := w64_eq (by omega) (by omega)
   have hlt : ((ls.length : Int) - 1 - n).toNat < ls.length := by omega
   obtain ⟨y, hy⟩ : ∃ y, y = ls[((ls.length : Int) - 1 - n).toNat]'hlt := ⟨_, rfl⟩
   have hix : idx ls ((ls.length : Int) - 1 - n) = some y := by
    unfold idx
    rw [if_pos (by omega), List.getElem?_eq_getElem hlt, hy]
   have hwl : (l0 :: up2 ls).length = ls.length + 1 := by simp [up2_len]
   have v1 : IntKind.i64.wrap (((l0 :: up2 ls).length : Int) - 1) = (ls.length : Int) := by rw [hwl, w64_eq (by omega) (by omega)]; omega
   have v2 : IntKind.i64.wrap ((ls.length : Int) - n) = (ls.length : Int) - n := w64_eq (by omega) (by omega)
   have hix2 : idx (l0 :: up2 ls) ((ls.length : Int) - n) = some (y + 2) := by
    unfold idx
    rw [if_pos (by omega), show ((ls.length : Int) - n).toNat = ((ls.length : Int) - 1 - n).toNat + 1 by omega, List.getElem?_cons_succ]
    unfold up2
    rw [List.getElem?_map, List.getElem?_eq_getElem hlt, hy]; rfl
   have hyr := hl y (by rw [hy]; exact List.getElem_mem hlt)
   have w3 : IntKind.i64.wrap (d - 1) = d - 1 := w64_eq (by omega) (by omega)
   have w4 : IntKind.i64.wrap (d - 1 - y) = d - 1 - y := w64_eq (by omega) (by omega)
   have w5 : IntKind.i64.wrap (d + 2 - 1) = d + 1 := by rw [w64_eq (by omega) (by omega)]; omega
   have w6 : IntKind.i64.wrap (d + 1 - (y + 2)) = d - 1 - y := by rw [w64_eq (by omega) (by omega)]; omega
   refine ⟨T.mk 5 (d - 1 - y) ⟨#[]⟩ [], by simp only [T.nodes, tnodes]; omega, (Ev.of (p := fun _ => True) fun _ => trivial).up 0 fun m _ _ => ⟨?_, ?_⟩⟩
   ·rw [i_levels_exprTerm, if_pos (show (Pf.mk 1 n [] []).kind = 1 from rfl), show (Pf.mk 1 n [] []).n = n from rfl, if_neg (by omega)]
    unfold i_levels_variable
    rw [w1, w2, hix, bind_some', bind_some', w3, w4]
   rw [i_levels_exprTerm, if_pos (show (Pf.mk 1 n [] []).kind = 1 from rfl), show (Pf.mk 1 n [] []).n = n from rfl, if_neg (by omega)]
   unfold i_levels_variable
   rw [v1, v2, hix2, bind_some', bind_some', w5, w6]
  ·have hsz : (Pf.mk 3 n [a] [b]).size = 1 + a.size + b.size := by simp only [Pf.size, fsizes, psizes]; omega
   have hfp := fsize_pos a
   rw [hsz] at hb ⊢
   have w1 : IntKind.i64.wrap (d + 1) = d + 1 := w64_eq (by omega) (by omega)
   have w2 : IntKind.i64.wrap (d + 2 + 1) = d + 1 + 2 := by rw [w64_eq (by omega) (by omega)]; omega
   obtain ⟨g, hg, _⟩ := tv_lam htv
   obtain ⟨t, ht, et⟩ := ih b (by simp) hbk (hs ++ [a]) _ g hg (ls ++ [d]) (d + 1) l0 (by simp [hlen]) (fun l h => by
    rcases List.mem_append.1 h with q | q
    ·have := hl l q; omega
    rw [List.mem_singleton.1 q]; omega) (by omega) (by simp; omega)
   refine ⟨T.mk 6 0 ⟨#[108, 97, 109]⟩ [F.ttree a, T.mk 4 0 ⟨#[]⟩ [t]], ?_, ((typeTree_ev a ha).and et).up 0 fun m _ ⟨⟨q1, q2⟩, q3, q4⟩ => ⟨?_, ?_⟩⟩
   ·have := ttree_nodes a
    simp only [T.nodes, tnodes]; omega
   ·rw [i_levels_exprTerm, if_neg (show ¬ (Pf.mk 3 n [a] [b]).kind = 1 from (by decide : ¬ (3 : Int) = 1)), if_neg (show ¬ (Pf.mk 3 n [a] [b]).kind = 2 from (by decide : ¬ (3 : Int) = 2)), show idx (Pf.mk 3 n [a] [b]).forms 0 = some a from rfl, show idx (Pf.mk 3 n [a] [b]).kids 0 = some b from rfl, bind_some', bind_some', q2, bind_some']
    unfold i_levels_with
    rw [chk_of (by simp only [List.length_singleton]; omega), bind_some', w1, q3]; rfl
   have q4 : i_levels_exprTerm m ((l0 :: up2 ls) ++ [d + 2]) b (d + 1 + 2) = some (.ok t) := by rw [up2_snoc] at q4; exact q4
   rw [i_levels_exprTerm, if_neg (show ¬ (Pf.mk 3 n [a] [b]).kind = 1 from (by decide : ¬ (3 : Int) = 1)), if_neg (show ¬ (Pf.mk 3 n [a] [b]).kind = 2 from (by decide : ¬ (3 : Int) = 2)), show idx (Pf.mk 3 n [a] [b]).forms 0 = some a from rfl, show idx (Pf.mk 3 n [a] [b]).kids 0 = some b from rfl, bind_some', bind_some', q2, bind_some']
   unfold i_levels_with
   rw [chk_of (by simp [up2_len]; omega), bind_some', w2, q4]; rfl
  have hsz : (Pf.mk 2 n [] [a, b]).size = 1 + a.size + b.size := by simp only [Pf.size, fsizes, psizes]; omega
  rw [hsz] at hb ⊢
  obtain ⟨g, b', c, h1, h2, _⟩ := tv_app htv
  obtain ⟨t, ht, et⟩ := ih a (by simp) ha hs _ g h1 ls d l0 hlen hl hd (by omega)
  obtain ⟨u, hu, eu⟩ := ih b (by simp) hbk hs _ b' h2 ls d l0 hlen hl hd (by omega)
  refine ⟨T.mk 6 0 ⟨#[97, 112, 112]⟩ [t, u], by simp only [T.nodes, tnodes]; omega, (et.and eu).up 0 fun m _ ⟨⟨q1, q2⟩, q3, q4⟩ => ⟨?_, ?_⟩⟩
  ·rw [i_levels_exprTerm, if_neg (show ¬ (Pf.mk 2 n [] [a, b]).kind = 1 from (by decide : ¬ (2 : Int) = 1)), if_pos (show (Pf.mk 2 n [] [a, b]).kind = 2 from rfl), show idx (Pf.mk 2 n [] [a, b]).kids 0 = some a from rfl, show idx (Pf.mk 2 n [] [a, b]).kids 1 = some b from rfl, bind_some', bind_some', q1, zb_ok, q3]; rfl
  rw [i_levels_exprTerm, if_neg (show ¬ (Pf.mk 2 n [] [a, b]).kind = 1 from (by decide : ¬ (2 : Int) = 1)), if_pos (show (Pf.mk 2 n [] [a, b]).kind = 2 from rfl), show idx (Pf.mk 2 n [] [a, b]).kids 0 = some a from rfl, show idx (Pf.mk 2 n [] [a, b]).kids 1 = some b from rfl, bind_some', bind_some', q2, zb_ok, q4]; rfl

end Go.Am.Ytpkeophkdemcpaa
