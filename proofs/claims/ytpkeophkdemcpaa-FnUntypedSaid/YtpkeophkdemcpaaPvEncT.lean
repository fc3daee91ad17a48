/- Plain laws: the law EncodeTyping. -/
import Derived.Test.YtpkeophkdemcpaaPuA
import Derived.Test.YtpkeophkdemcpaaMi4
import Derived.Test.YtpkeophkdemcpaaPvBigG
import Derived.Test.YtpkeophkdemcpaaPvTTree
import Derived.Test.YtpkeophkdemcpaaPvTypeA
import Derived.Test.YtpkeophkdemcpaaPuTypS
import Derived.Test.YtpkeophkdemcpaaEqEncT
namespace Go.Am
open Go
theorem zb_ok {α β : Type} (a : α) (k : α → Option (Rz β)) : zb (some (.ok a)) k = k a := rfl
end Go.Am
namespace Go.Am
open Go
mutual
theorem fbeq_eq : ∀ {a b : F}, a.beq b = true → a = b
 | .mk k n ks, .mk k2 n2 ks2, h => by
  simp only [F.beq, Bool.and_eq_true, decide_eq_true_eq] at h
  obtain ⟨rfl, rfl, h⟩ := h
  rw [fbeqs_eq h]
theorem fbeqs_eq : ∀ {a b : List F}, fbeqs a b = true → a = b
 | [], [], _ => rfl
 | a :: r, b :: s, h => by
  simp only [fbeqs, Bool.and_eq_true] at h
  rw [fbeq_eq h.1, fbeqs_eq h.2]
 | [], _ :: _, h => by simp [fbeqs] at h
 | _ :: _, [], h => by simp [fbeqs] at h
end
theorem tv_var {k n : Int} {fs hs : List F} {at_ : Int} {f : F} (h : (Pf.mk k n fs []).tv hs at_ = .ok f) : n < (hs.length : Int) := by
 rw [Pf.tv] at h
 split at h
 ·cases h
 omega
theorem tv_lam {k n : Int} {fs hs : List F} {x : Pf} {at_ : Int} {f : F} (h : (Pf.mk k n fs [x]).tv hs at_ = .ok f) : ∃ g, x.tv (hs ++ [fa fs]) (at_ + 1) = .ok g ∧ f = F.mk 2 0 [fa fs, g] := by
 rw [Pf.tv] at h
 split at h
 ·cases h
 rename_i g hq
 cases h
 exact ⟨g, hq, rfl⟩
theorem tv_app {k n : Int} {fs hs : List F} {x y : Pf} {r : List Pf} {at_ : Int} {f : F} (h : (Pf.mk k n fs (x :: y :: r)).tv hs at_ = .ok f) :
  ∃ g b c, x.tv hs (at_ + 1) = .ok g ∧ y.tv hs c = .ok b ∧ g.kind = 2 ∧ fa g.kids = b ∧ f = fb g.kids := by
 rw [Pf.tv] at h
 split at h
 ·cases h
 rename_i g hq
 split at h
 ·cases h
 rename_i b hq2
 split at h
 ·rename_i k1
  split at h
  ·rename_i k2
   cases h
   exact ⟨g, b, _, hq, hq2, k1, fbeq_eq k2, rfl⟩
  cases h
 cases h
theorem tv_any (t : Pf) : ∀ hs at_ f, t.tv hs at_ = .ok f → ∀ b, t.tv hs b = .ok f := by
 induction t using Pf.ind with
 | _ k n fs ks ih =>
  intro hs at_ f h b
  match ks, ih, h with
  | [], _, h =>
   rw [Pf.tv] at h ⊢
   split at h
   ·cases h
   rename_i q; rw [if_neg q]; exact h
  | [x], ih, h =>
   rw [Pf.tv] at h ⊢
   split at h
   ·cases h
   rename_i g hq; rw [ih x (by simp) _ _ _ hq (b + 1)]; exact h
  | x :: y :: r, ih, h =>
   rw [Pf.tv] at h ⊢
   split at h
   ·cases h
   rename_i g hq
   split at h
   ·cases h
   rename_i g2 hq2
   rw [ih x (by simp) _ _ _ hq (b + 1)]
   show (match y.tv hs (b + 1 + x.psz) with | .stop c p => (Rz.stop c p : Rz F) | .ok b' => if g.kind = 2 then (if (fa g.kids).beq b' = true then .ok (fb g.kids) else .stop 10 (b + 1 + x.psz)) else .stop 8 (b + 1)) = _
   rw [ih y (by simp) _ _ _ hq2 (b + 1 + x.psz)]
   split at h
   ·rename_i k1
    split at h
    ·rename_i k2
     show (if g.kind = 2 then (if (fa g.kids).beq g2 = true then Rz.ok (fb g.kids) else Rz.stop 10 (b + 1 + x.psz)) else Rz.stop 8 (b + 1)) = _
     rw [if_pos k1, if_pos k2]; exact h
    cases h
   cases h
theorem fsizes_at {fs : List F} {i : Nat} {x : F} (h : fs[i]? = some x) : x.size ≤ fsizes fs := by
 have := List.mem_of_getElem? h
 clear h
 induction fs with
 | nil => cases this
 | cons a r ih =>
  simp only [fsizes]
  rcases List.mem_cons.1 this with rfl | h
  ·omega
  have := ih h; omega
theorem fa_size (fs : List F) : (fa fs).size ≤ fsizes fs + 1 := by
 unfold fa
 cases e : fs[0]? with
 | none => show F.zz.size ≤ _; unfold F.zz F.size; simp [fsizes]
 | some x => have := fsizes_at e; show x.size ≤ _; omega
theorem fb_size (fs : List F) : (fb fs).size ≤ fsizes fs + 1 := by
 unfold fb
 cases e : fs[1]? with
 | none => show (F.mk 4 0 []).size ≤ _; unfold F.size; simp [fsizes]
 | some x => have := fsizes_at e; show x.size ≤ _; omega
theorem ty_size (t : Pf) : ∀ (hs : List F) (S : Nat), (∀ f ∈ hs, f.size ≤ S) → (t.ty hs).size ≤ S + 4 * t.size + 4 := by
 induction t using Pf.ind with
 | _ k n fs ks ih =>
  intro hs S hh
  match ks, ih with
  | [], _ =>
   rw [Pf.ty]
   cases e : hs[hs.length - 1 - n.toNat]? with
   | none => show F.zz.size ≤ _; unfold F.zz F.size; simp [fsizes]
   | some x => have := hh x (List.mem_of_getElem? e); show x.size ≤ _; omega
  | [x], ih =>
   rw [Pf.ty]
   have hf := fa_size fs
   have := ih x (by simp) (hs ++ [fa fs]) (S + (fa fs).size) (fun f hf => by
    rcases List.mem_append.1 hf with h | h
    ·have := hh f h; omega
    simp at h; subst h; omega)
   simp only [F.size, fsizes, Pf.size, psizes]
   omega
  | x :: y :: r, ih =>
   rw [Pf.ty]
   have := ih x (by simp) hs S hh
   have h2 := fb_size (x.ty hs).kids
   have h3 : fsizes (x.ty hs).kids + 1 = (x.ty hs).size := by
    generalize x.ty hs = q
    obtain ⟨u, v, l⟩ := q
    simp only [F.size, F.kids]; omega
   simp only [Pf.size, psizes]
   omega
theorem T_eta (t : T) : T.mk t.kind t.n t.name t.kids = t := by cases t; rfl
theorem F_eta' (f : F) : F.mk f.kind f.n f.kids = f := by cases f; rfl
theorem Pf_eta (x : Pf) : Pf.mk x.kind x.n x.forms x.kids = x := by cases x; rfl
end Go.Am
namespace Go.Am.Ytpkeophkdemcpaa
open Go Go.Am

theorem xt_ev (x : Pf) : x.exok = true → ∀ (hs : List F) (at_ : Int) (f : F), x.tv hs at_ = .ok f → ∀ (ls : List Int) (d : Int), ls.length = hs.length → (∀ l ∈ ls, 0 ≤ l ∧ l < d) → 0 ≤ d → d + x.size + hs.length ≤ 100000 →
  ∃ t : T, T.nodes t ≤ 2 * x.size ∧ Ev fun n => i_levels_exprTerm n ls x d = some (.ok t) ∧ s_l09Tree n x ls d = some t := by
 induction x using Pf.ind with
 | _ k n fs ks ih =>
  intro hok hs at_ f htv ls d hlen hl hd hb
  rcases exok_rules hok with ⟨rfl, hn0, hn1, rfl, rfl⟩ | ⟨rfl, a, b, rfl, rfl, ha, hbk⟩ | ⟨rfl, a, b, rfl, rfl, ha, hbk⟩
  ·have hs1 : (Pf.mk 1 n [] []).size = 1 := by simp only [Pf.size, fsizes, psizes]
   rw [hs1] at hb ⊢
   have hv := tv_var htv
   have w1 : IntKind.i64.wrap ((ls.length : Int) - 1) = (ls.length : Int) - 1 := w64_eq (by omega) (by omega)
   have w2 : IntKind.i64.wrap ((ls.length : Int) - 1 - n) = (ls.length : Int) - 1 - n := w64_eq (by omega) (by omega)
   have hlt : ((ls.length : Int) - 1 - n).toNat < ls.length := by omega
   have hix : idx ls ((ls.length : Int) - 1 - n) = some (ls[((ls.length : Int) - 1 - n).toNat]'hlt) := by
    unfold idx
    rw [if_pos (by omega), List.getElem?_eq_getElem hlt]
   obtain ⟨y, hy⟩ : ∃ y, y = ls[((ls.length : Int) - 1 - n).toNat]'hlt := ⟨_, rfl⟩
   rw [← hy] at hix
   have hyr := hl y (by rw [hy]; exact List.getElem_mem hlt)
   have w3 : IntKind.i64.wrap (d - 1) = d - 1 := w64_eq (by omega) (by omega)
   have w4 : IntKind.i64.wrap (d - 1 - y) = d - 1 - y := w64_eq (by omega) (by omega)
   refine ⟨T.mk 5 (d - 1 - y) ⟨#[]⟩ [], by simp only [T.nodes, tnodes]; omega, (Ev.of (p := fun _ => True) fun _ => trivial).up 0 fun m _ _ => ⟨?_, ?_⟩⟩
   ·rw [i_levels_exprTerm, if_pos (show (Pf.mk 1 n [] []).kind = 1 from rfl), show (Pf.mk 1 n [] []).n = n from rfl, if_neg (by omega)]
    unfold i_levels_variable
    rw [w1, w2, hix, bind_some', bind_some', w3, w4]
   rw [s_l09Tree, if_pos (show (Pf.mk 1 n [] []).kind = 1 from rfl), show (Pf.mk 1 n [] []).n = n from rfl, w1, w2, hix, bind_some', w3, w4]
  ·have hsz : (Pf.mk 3 n [a] [b]).size = 1 + a.size + b.size := by simp only [Pf.size, fsizes, psizes]; omega
   have hfp := fsize_pos a
   rw [hsz] at hb ⊢
   have w1 : IntKind.i64.wrap (d + 1) = d + 1 := w64_eq (by omega) (by omega)
   obtain ⟨g, hg, _⟩ := tv_lam htv
   obtain ⟨t, ht, et⟩ := ih b (by simp) hbk (hs ++ [a]) _ g hg (ls ++ [d]) (d + 1) (by simp [hlen]) (fun l h => by
    rcases List.mem_append.1 h with q | q
    ·have := hl l q; omega
    rw [List.mem_singleton.1 q]; omega) (by omega) (by simp; omega)
   refine ⟨T.mk 6 0 ⟨#[108, 97, 109]⟩ [F.ttree a, T.mk 4 0 ⟨#[]⟩ [t]], ?_, ((typeTree_ev a ha).and et).up 0 fun m _ ⟨⟨q1, q2⟩, q3, q4⟩ => ⟨?_, ?_⟩⟩
   ·have := ttree_nodes a
    simp only [T.nodes, tnodes]; omega
   ·rw [i_levels_exprTerm, if_neg (show ¬ (Pf.mk 3 n [a] [b]).kind = 1 from (by decide : ¬ (3 : Int) = 1)), if_neg (show ¬ (Pf.mk 3 n [a] [b]).kind = 2 from (by decide : ¬ (3 : Int) = 2)), show idx (Pf.mk 3 n [a] [b]).forms 0 = some a from rfl, show idx (Pf.mk 3 n [a] [b]).kids 0 = some b from rfl, bind_some', bind_some', q2, bind_some']
    unfold i_levels_with
    rw [chk_of (by simp only [List.length_singleton]; omega), bind_some', w1, q3]; rfl
   rw [s_l09Tree, if_neg (show ¬ (Pf.mk 3 n [a] [b]).kind = 1 from (by decide : ¬ (3 : Int) = 1)), if_pos (show (Pf.mk 3 n [a] [b]).kind = 3 from rfl), show idx (Pf.mk 3 n [a] [b]).forms 0 = some a from rfl, show idx (Pf.mk 3 n [a] [b]).kids 0 = some b from rfl, bind_some', bind_some', q1, bind_some']
   unfold s_l09Place
   rw [chk_of (by simp only [List.length_nil]; omega), chk_of (by simp only [List.nil_append, List.length_singleton]; omega), bind_some', List.nil_append, w1, q4, bind_some']
  have hsz : (Pf.mk 2 n [] [a, b]).size = 1 + a.size + b.size := by simp only [Pf.size, fsizes, psizes]; omega
  rw [hsz] at hb ⊢
  obtain ⟨g, b', c, h1, h2, _⟩ := tv_app htv
  obtain ⟨t, ht, et⟩ := ih a (by simp) ha hs _ g h1 ls d hlen hl hd (by omega)
  obtain ⟨u, hu, eu⟩ := ih b (by simp) hbk hs _ b' h2 ls d hlen hl hd (by omega)
  refine ⟨T.mk 6 0 ⟨#[97, 112, 112]⟩ [t, u], by simp only [T.nodes, tnodes]; omega, (et.and eu).up 0 fun m _ ⟨⟨q1, q2⟩, q3, q4⟩ => ⟨?_, ?_⟩⟩
  ·rw [i_levels_exprTerm, if_neg (show ¬ (Pf.mk 2 n [] [a, b]).kind = 1 from (by decide : ¬ (2 : Int) = 1)), if_pos (show (Pf.mk 2 n [] [a, b]).kind = 2 from rfl), show idx (Pf.mk 2 n [] [a, b]).kids 0 = some a from rfl, show idx (Pf.mk 2 n [] [a, b]).kids 1 = some b from rfl, bind_some', bind_some', q1, zb_ok, q3]; rfl
  rw [s_l09Tree, if_neg (show ¬ (Pf.mk 2 n [] [a, b]).kind = 1 from (by decide : ¬ (2 : Int) = 1)), if_neg (show ¬ (Pf.mk 2 n [] [a, b]).kind = 3 from (by decide : ¬ (2 : Int) = 3)), show idx (Pf.mk 2 n [] [a, b]).kids 0 = some a from rfl, show idx (Pf.mk 2 n [] [a, b]).kids 1 = some b from rfl, bind_some', bind_some', q2, q4, bind_some', bind_some']

def up1 (ls : List Int) : List Int := ls.map fun l => l + 1
theorem up1_snoc (ls : List Int) (d : Int) : up1 (ls ++ [d]) = up1 ls ++ [d + 1] := by unfold up1; simp

theorem typ_ev (x : Pf) : x.exok = true → x.sm → x.size ≤ 150 → ∀ (hs : List F) (at_ : Int) (f : F), x.tv hs at_ = .ok f → (∀ g ∈ hs, g.sm ∧ g.tyok = true ∧ g.size ≤ 150) → ∀ (ls : List Int) (d : Int), ls.length = hs.length → (∀ l ∈ ls, 0 ≤ l ∧ l + 1 < d) → 0 ≤ d → d + 2 * x.size + hs.length ≤ 10000 →
  ∃ t : T, T.nodes t ≤ 5000 * x.size ∧ Ev fun n => i_typer_typing__c n (hs, ls, up1 ls) x d = some (.ok t) ∧ s_l09Typing n hs x ls d = some (t, f) := by
 induction x using Pf.ind with
 | _ k n fs ks ih =>
  intro hok hsm hsz hs at_ f htv hh ls d hlen hl hd hb
  obtain ⟨⟨hfl, hfs⟩, hkl, hks⟩ := psm_kids hsm
  rcases exok_rules hok with ⟨rfl, hn0, hn1, rfl, rfl⟩ | ⟨rfl, a, b, rfl, rfl, ha, hbk⟩ | ⟨rfl, a, b, rfl, rfl, ha, hbk⟩
  ·have hs1 : (Pf.mk 1 n [] []).size = 1 := by simp only [Pf.size, fsizes, psizes]
   rw [hs1] at hb ⊢
   have hv := tv_var htv
   have w1 : IntKind.i64.wrap ((ls.length : Int) - 1) = (ls.length : Int) - 1 := w64_eq (by omega) (by omega)
   have w2 : IntKind.i64.wrap ((ls.length : Int) - 1 - n) = (ls.length : Int) - 1 - n := w64_eq (by omega) (by omega)
   have hlt : ((ls.length : Int) - 1 - n).toNat < ls.length := by omega
   obtain ⟨y, hy⟩ : ∃ y, y = ls[((ls.length : Int) - 1 - n).toNat]'hlt := ⟨_, rfl⟩
   have hix : idx ls ((ls.length : Int) - 1 - n) = some y := by
    unfold idx
    rw [if_pos (by omega), List.getElem?_eq_getElem hlt, hy]
   have hix2 : idx (up1 ls) ((ls.length : Int) - 1 - n) = some (y + 1) := by
    unfold idx up1
    rw [if_pos (by omega), List.getElem?_map, List.getElem?_eq_getElem hlt, hy]; rfl
   have hyr := hl y (by rw [hy]; exact List.getElem_mem hlt)
   have hul : (up1 ls).length = ls.length := by unfold up1; simp
   have w3 : IntKind.i64.wrap (d - 1) = d - 1 := w64_eq (by omega) (by omega)
   have w4 : IntKind.i64.wrap (d - 1 - (y + 1)) = d - 2 - y := by rw [w64_eq (by omega) (by omega)]; omega
   have w5 : IntKind.i64.wrap (d - 2) = d - 2 := w64_eq (by omega) (by omega)
   have w6 : IntKind.i64.wrap (d - 2 - y) = d - 2 - y := w64_eq (by omega) (by omega)
   have hty := tv_ok _ _ _ _ htv
   rw [Pf.ty] at hty
   refine ⟨T.mk 5 (d - 2 - y) ⟨#[]⟩ [], by simp only [T.nodes, tnodes]; omega, (Ev.of (p := fun _ => True) fun _ => trivial).up 0 fun m _ _ => ⟨?_, ?_⟩⟩
   ·rw [i_typer_typing__c, if_pos (show (Pf.mk 1 n [] []).kind = 1 from rfl)]
    show (i_levels_variable (up1 ls) n d).bind _ = _
    unfold i_levels_variable
    rw [hul, w1, w2, hix2, bind_some', bind_some', w3, w4]
   have e2 := hypt_idx (hs := hs) hn0 (by omega) (show ¬ n ≥ (hs.length : Int) by omega)
   rw [s_l09Typing, if_pos (show (Pf.mk 1 n [] []).kind = 1 from rfl), show (Pf.mk 1 n [] []).n = n from rfl, w1, w2, hix, bind_some', e2, bind_some', w5, w6, hty]
  ·have hpz : (Pf.mk 3 n [a] [b]).size = 1 + a.size + b.size := by simp only [Pf.size, fsizes, psizes]; omega
   have hfp := fsize_pos a
   rw [hpz] at hb hsz ⊢
   have w1 : IntKind.i64.wrap (d + 1) = d + 1 := w64_eq (by omega) (by omega)
   have w2 : IntKind.i64.wrap (d + 2) = d + 2 := w64_eq (by omega) (by omega)
   obtain ⟨g, hg, hfe⟩ := tv_lam htv
   have hg : b.tv (hs ++ [a]) (at_ + 1) = .ok g := hg
   have hfe : f = F.mk 2 0 [a, g] := hfe
   have hh2 : ∀ g ∈ hs ++ [a], g.sm ∧ g.tyok = true ∧ g.size ≤ 150 := fun q hq => by
    rcases List.mem_append.1 hq with h | h
    ·exact hh q h
    rw [List.mem_singleton.1 h]; exact ⟨hfs a (by simp), ha, by omega⟩
   have hgt := tv_tyok b hbk (hs ++ [a]) (fun q hq => (hh2 q hq).2.1) _ _ hg
   have hgs : g.size ≤ 800 := by
    rw [tv_ok _ _ _ _ hg]
    have := ty_size b (hs ++ [a]) 150 fun q hq => (hh2 q hq).2.2
    omega
   obtain ⟨t, ht, et⟩ := ih b (by simp) hbk (hks b (by simp)) (by omega) (hs ++ [a]) _ g hg hh2 (ls ++ [d]) (d + 2) (by simp [hlen]) (fun l h => by
    rcases List.mem_append.1 h with q | q
    ·have := hl l q; omega
    rw [List.mem_singleton.1 q]; omega) (by omega) (by simp; omega)
   obtain ⟨u, hu, eu⟩ := xt_ev b hbk (hs ++ [a]) _ g hg (ls ++ [d]) (d + 1) (by simp [hlen]) (fun l h => by
    rcases List.mem_append.1 h with q | q
    ·have := hl l q; omega
    rw [List.mem_singleton.1 q]; omega) (by omega) (by simp; omega)
   have ety := typeOf_ev b hbk (hks b (by simp)) (by omega) (hs ++ [a]) (fun q hq => ⟨(hh2 q hq).1, (hh2 q hq).2.1⟩) (by simp; omega)
   have hpl := ppsz_le b
   refine ⟨T.mk 6 0 ⟨#[111, 102, 108, 97, 109]⟩ [F.ttree a, F.ttree g, T.mk 4 0 ⟨#[]⟩ [u], T.mk 4 0 ⟨#[]⟩ [T.mk 4 0 ⟨#[]⟩ [t]]], ?_, ((typeTree_ev a ha).and ((typeTree_ev g hgt).and (et.and (eu.and ety)))).up 0 fun m _ ⟨⟨q1, q2⟩, ⟨q3, q4⟩, ⟨q5, q6⟩, ⟨q7, q8⟩, q9⟩ => ⟨?_, ?_⟩⟩
   ·have h1 := ttree_nodes a
    have h2 := ttree_nodes g
    simp only [T.nodes, tnodes]; omega
   ·have hto : i_typeOf m (hs ++ [a]) b 0 = some (.ok g) := by rw [(q9 0 (by omega) (by omega)).1, tv_any _ _ _ _ hg 0]
    have e0 : i_typer_typing__c (m + 1) (hs, ls, up1 ls) (Pf.mk 3 n [a] [b]) d = chk (hs.length + [a].length ≤ 1099511627776) ((i_levels_with ls d).bind fun r131 => (i_levels_with (up1 ls) (IntKind.i64.wrap (d + 1))).bind fun r138 =>
      (i_typeTerm m a).bind fun r170 => zb (i_typeOf m (hs ++ [a]) b 0) fun r177 => (i_typeTerm m r177).bind fun r186 => zb (i_levels_exprTerm m r131 b (IntKind.i64.wrap (d + 1))) fun r193 => zb (i_typer_typing__c m (hs ++ [a], r131, r138) b (IntKind.i64.wrap (d + 2))) fun r202 =>
      some (.ok (T.mk 6 0 ⟨#[111, 102, 108, 97, 109]⟩ [r170, r186, (T.mk 4 0 ⟨#[]⟩ [r193]), (T.mk 4 0 ⟨#[]⟩ [(T.mk 4 0 ⟨#[]⟩ [r202])])]))) := by rw [i_typer_typing__c]; rfl
    have hul : (up1 ls).length = ls.length := by unfold up1; simp
    rw [e0, chk_of (by simp; omega), w1]
    unfold i_levels_with
    rw [chk_of (by simp only [List.length_singleton]; omega), bind_some', chk_of (by simp only [List.length_singleton]; omega), bind_some', q2, bind_some', hto, zb_ok, q4, bind_some', q7, zb_ok, w2, ← up1_snoc, q5, zb_ok]
   have e0 : s_l09Typing (m + 1) hs (Pf.mk 3 n [a] [b]) ls d = (s_l09Place ls d).bind fun r17 => (s_l09More hs a).bind fun r43 => (s_l09Typing m r43 b r17 (IntKind.i64.wrap (d + 2))).bind fun r50 => (s_l09Tree m b r17 (IntKind.i64.wrap (d + 1))).bind fun r226 => (s_l09TypeTree m a).bind fun r243 => (s_l09TypeTree m (F.mk r50.2.kind r50.2.n r50.2.kids)).bind fun r250 =>
     some ((T.mk 6 0 ⟨#[111, 102, 108, 97, 109]⟩ [r243, r250, (T.mk 4 0 ⟨#[]⟩ [r226]), (T.mk 4 0 ⟨#[]⟩ [(T.mk 4 0 ⟨#[]⟩ [(T.mk r50.1.kind r50.1.n r50.1.name r50.1.kids)])])]), (F.mk 2 0 [a, (F.mk r50.2.kind r50.2.n r50.2.kids)])) := by rw [s_l09Typing]; rfl
   have em : s_l09More hs a = some (hs ++ [a]) := by
    unfold s_l09More
    rw [chk_of (by simp; omega), chk_of (by simp; omega)]
   rw [e0]
   unfold s_l09Place
   rw [chk_of (by simp only [List.length_nil]; omega), chk_of (by simp only [List.nil_append, List.length_singleton]; omega), bind_some', List.nil_append, em, bind_some', w2, q6, bind_some', w1, q8, bind_some', q1, bind_some', F_eta', T_eta, q3, bind_some', hfe]
  have hpz : (Pf.mk 2 n [] [a, b]).size = 1 + a.size + b.size := by simp only [Pf.size, fsizes, psizes]; omega
  rw [hpz] at hb hsz ⊢
  obtain ⟨g, g2, c, h1, h2, hk, hfa, hfb⟩ := tv_app htv
  have hgt := tv_tyok a ha hs (fun q hq => (hh q hq).2.1) _ _ h1
  have hgs : g.size ≤ 800 := by
   rw [tv_ok _ _ _ _ h1]
   have := ty_size a hs 150 fun q hq => (hh q hq).2.2
   omega
  obtain ⟨v1, v2, ek, ht1, ht2⟩ := tyok_fun hgt hk
  have efa : fa g.kids = v1 := by rw [ek]; rfl
  have efb : fb g.kids = v2 := by rw [ek]; rfl
  obtain rfl : v1 = g2 := by rw [← efa, hfa]
  obtain rfl : f = v2 := by rw [hfb, efb]
  have hgk : g.size = 1 + v1.size + f.size := by
   obtain ⟨x1, x2, x3⟩ := g
   have : x3 = [v1, f] := ek
   subst this
   simp only [F.size, fsizes]; omega
  obtain ⟨t1, hn1, e1⟩ := ih a (by simp) ha (hks a (by simp)) (by omega) hs _ g h1 hh ls d hlen hl hd (by omega)
  obtain ⟨t2, hn2, e2⟩ := ih b (by simp) hbk (hks b (by simp)) (by omega) hs _ v1 h2 hh ls d hlen hl hd (by omega)
  have hl' : ∀ l ∈ ls, 0 ≤ l ∧ l < d := fun l h => by have := hl l h; omega
  obtain ⟨u1, hu1, e3⟩ := xt_ev a ha hs _ g h1 ls d hlen hl' hd (by omega)
  obtain ⟨u2, hu2, e4⟩ := xt_ev b hbk hs _ v1 h2 ls d hlen hl' hd (by omega)
  have ety := typeOf_ev a ha (hks a (by simp)) (by omega) hs (fun q hq => ⟨(hh q hq).1, (hh q hq).2.1⟩) (by omega)
  have hpl := ppsz_le a
  refine ⟨T.mk 6 0 ⟨#[111, 102, 97, 112, 112]⟩ [u1, u2, F.ttree v1, F.ttree f, t1, t2], ?_, ((typeTree_ev v1 ht1).and ((typeTree_ev f ht2).and (e1.and (e2.and (e3.and (e4.and ety)))))).up 0 fun m _ ⟨⟨q1, q2⟩, ⟨q3, q4⟩, ⟨q5, q6⟩, ⟨q7, q8⟩, ⟨r1, r2⟩, ⟨r3, r4⟩, q9⟩ => ⟨?_, ?_⟩⟩
  ·have h1 := ttree_nodes v1
   have h2 := ttree_nodes f
   simp only [T.nodes, tnodes]; omega
  ·have hto : i_typeOf m hs a 0 = some (.ok g) := by rw [(q9 0 (by omega) (by omega)).1, tv_any _ _ _ _ h1 0]
   have e0 : i_typer_typing__c (m + 1) (hs, ls, up1 ls) (Pf.mk 2 n [] [a, b]) d = zb (i_typeOf m hs (Pf.mk a.kind a.n a.forms a.kids) 0) fun r39 => (idx r39.kids 0).bind fun y57 => (idx r39.kids 1).bind fun y62 =>
     zb (i_levels_exprTerm m ls (Pf.mk a.kind a.n a.forms a.kids) d) fun r67 => zb (i_levels_exprTerm m ls (Pf.mk b.kind b.n b.forms b.kids) d) fun r76 => (i_typeTerm m y57).bind fun r85 => (i_typeTerm m y62).bind fun r92 =>
     zb (i_typer_typing__c m (hs, ls, up1 ls) (Pf.mk a.kind a.n a.forms a.kids) d) fun r99 => zb (i_typer_typing__c m (hs, ls, up1 ls) (Pf.mk b.kind b.n b.forms b.kids) d) fun r108 =>
     some (.ok (T.mk 6 0 ⟨#[111, 102, 97, 112, 112]⟩ [r67, r76, r85, r92, r99, r108])) := by rw [i_typer_typing__c]; rfl
   rw [e0, Pf_eta, Pf_eta, hto, zb_ok, ek, show idx [v1, f] 0 = some v1 from rfl, show idx [v1, f] 1 = some f from rfl, bind_some', bind_some', r1, zb_ok, r3, zb_ok, q2, bind_some', q4, bind_some', q5, zb_ok, q7, zb_ok]
  have e0 : s_l09Typing (m + 1) hs (Pf.mk 2 n [] [a, b]) ls d = (s_l09Typing m hs a ls d).bind fun r264 => (s_l09Typing m hs b ls d).bind fun r282 => (idx r264.2.kids 1).bind fun y305 => (idx r264.2.kids 1).bind fun y310 =>
    (s_l09Tree m a ls d).bind fun r315 => (s_l09Tree m b ls d).bind fun r322 => (s_l09TypeTree m r282.2).bind fun r329 => (s_l09TypeTree m y305).bind fun r336 =>
    some ((T.mk 6 0 ⟨#[111, 102, 97, 112, 112]⟩ [r315, r322, r329, r336, r264.1, r282.1]), y310) := by rw [s_l09Typing]; rfl
  rw [e0, q6, bind_some', q8, bind_some', ek, show idx [v1, f] 1 = some f from rfl, bind_some', bind_some', r2, bind_some', r4, bind_some', q1, bind_some', q3, bind_some']

def lv2 (o : Int) (k : Nat) : List Int := (List.range k).map fun (j : Nat) => o + 2 * (j : Int)
theorem lv2_succ (o : Int) (k : Nat) : lv2 o (k + 1) = lv2 o k ++ [o + 2 * (k : Int)] := by unfold lv2; rw [List.range_succ, List.map_append]; rfl
theorem lv2_len (o : Int) (k : Nat) : (lv2 o k).length = k := by unfold lv2; simp
theorem lv2_up (k : Nat) : lv2 1 k = up1 (lv2 0 k) := by
 unfold lv2 up1
 rw [List.map_map]
 refine List.map_congr_left fun j _ => ?_
 show 1 + 2 * (j : Int) = 0 + 2 * (j : Int) + 1
 omega
theorem lv2_lt (k : Nat) : ∀ l ∈ lv2 0 k, 0 ≤ l ∧ l + 1 < 2 * (k : Int) := fun l hl => by
 unfold lv2 at hl
 obtain ⟨j, hj, rfl⟩ := List.mem_map.1 hl
 have := List.mem_range.1 hj
 omega
theorem first2_lp (o : Int) (h0 : 0 ≤ o) (h1 : o ≤ 1) (K : Nat) (hK : K ≤ 1000) : ∀ (r a m : Nat), K = a + r → r < m → i_firstLevels_L1 K 2 o m a (lv2 o a) = some (lv2 o K)
 | 0, a, m, e, hm => by
  obtain ⟨m, rfl⟩ : ∃ k, m = k + 1 := ⟨m - 1, by omega⟩
  rw [i_firstLevels_L1, if_neg (by omega), show a = K by omega]
 | r + 1, a, m, e, hm => by
  obtain ⟨m, rfl⟩ : ∃ k, m = k + 1 := ⟨m - 1, by omega⟩
  have hl := lv2_len o a
  have w1 : IntKind.i64.wrap (2 * (a : Int)) = 2 * (a : Int) := w64_eq (by omega) (by omega)
  have w2 : IntKind.i64.wrap (o + 2 * (a : Int)) = o + 2 * (a : Int) := w64_eq (by omega) (by omega)
  have w3 : IntKind.i64.wrap ((a : Int) + 1) = ((a + 1 : Nat) : Int) := by rw [w64_eq (by omega) (by omega)]; push_cast; rfl
  rw [i_firstLevels_L1, if_pos (by omega), w1, w2, chk_of (by simp only [List.length_singleton]; omega), w3, ← lv2_succ]
  exact first2_lp o h0 h1 K hK r (a + 1) m (by omega) (by omega)
theorem level2_lp (K : Nat) (hK : K ≤ 1000) : ∀ (r a m : Nat), K = a + r → r < m → s_l09Level_L1 K 2 m a (lv2 0 a) = some (lv2 0 K)
 | 0, a, m, e, hm => by
  obtain ⟨m, rfl⟩ : ∃ k, m = k + 1 := ⟨m - 1, by omega⟩
  rw [s_l09Level_L1, if_neg (by omega), show a = K by omega]
 | r + 1, a, m, e, hm => by
  obtain ⟨m, rfl⟩ : ∃ k, m = k + 1 := ⟨m - 1, by omega⟩
  have hl := lv2_len 0 a
  have w1 : IntKind.i64.wrap ((a : Int) * 2) = 0 + 2 * (a : Int) := by rw [w64_eq (by omega) (by omega)]; omega
  have w3 : IntKind.i64.wrap ((a : Int) + 1) = ((a + 1 : Nat) : Int) := by rw [w64_eq (by omega) (by omega)]; push_cast; rfl
  rw [s_l09Level_L1, if_pos (by omega), w1, chk_of (by simp only [List.length_singleton]; omega), w3, ← lv2_succ]
  exact level2_lp K hK r (a + 1) m (by omega) (by omega)
theorem levels2_ev (K : Nat) (hK : K ≤ 1000) : Ev fun n => i_firstLevels n K 2 0 = some (lv2 0 K) ∧ i_firstLevels n K 2 1 = some (up1 (lv2 0 K)) ∧ s_l09Level n K 2 = some (lv2 0 K) :=
 ⟨K + 1, fun n hn => ⟨first2_lp 0 (by omega) (by omega) K hK K 0 n (by omega) (by omega), by rw [← lv2_up]; exact first2_lp 1 (by omega) (by omega) K hK K 0 n (by omega) (by omega), level2_lp K hK K 0 n (by omega) (by omega)⟩⟩

def tvl (l : List F) (p : Pf) : F × Int × Int :=
 if 4096 < l.length then (F.zz, 2, 0) else if (decide (l.length ≤ 12) && l.all tgd) && (decide (p.size ≤ 150) && p.exok) then (p.tv l 0).enc else (F.zz, 1, 0)

theorem iTypeOf_ev (l : List F) (p : Pf) (hl : ∀ t ∈ l, t.sm) (hp : p.sm) : Ev fun n => i_TypeOf n l p = some (tvl l p) := by
 by_cases h4 : 4096 < l.length
 ·have he : tvl l p = (F.zz, 2, 0) := if_pos h4
  rw [he]
  refine (longs_ev l).mp fun n h => ?_
  unfold i_TypeOf; rw [h, bind_some', if_pos (by simpa using h4)]; rfl
 have h4' : l.length ≤ 4096 := by omega
 by_cases hok : ((decide (l.length ≤ 12) && l.all tgd) && (decide (p.size ≤ 150) && p.exok)) = true
 ·have hok2 := hok
  simp only [Bool.and_eq_true, decide_eq_true_eq] at hok2
  obtain ⟨⟨ho1, ho2⟩, ho3, ho4⟩ := hok2
  have he : tvl l p = (p.tv l 0).enc := by unfold tvl; rw [if_neg h4, if_pos hok]
  rw [he]
  have hps := ppsz_le p
  have hcs : (p.ty l).sm := ty_sm p hp l hl
  refine ((longs_ev l).and ((typesOK_ev l h4' hl).and ((implExprOK_ev p).and ((typeOf_ev p ho4 hp (by omega) l (fun f hf => ⟨hl f hf, by have := List.all_eq_true.1 ho2 f hf; simp only [tgd, Bool.and_eq_true, decide_eq_true_eq] at this; exact this.2⟩) (by omega)).and (clone_ev _ hcs))))).mp fun n h => ?_
  obtain ⟨h1, ⟨h2, h3⟩, h5, h6, h7⟩ := h
  obtain ⟨h6i, h6s⟩ := h6 0 (by omega) (by omega)
  have hA : (decide (l.length ≤ 12) && l.all tgd) = true := by rw [ho2, decide_eq_true ho1]; rfl
  have hB : (decide (p.size ≤ 150) && p.exok) = true := by rw [ho4, decide_eq_true ho3]; rfl
  rw [hA] at h3
  rw [hB] at h5
  unfold i_TypeOf i_TypeOf_c1
  rw [h1, bind_some', if_neg (by simpa using h4), h3, bind_some', if_neg (by decide), h5, bind_some', if_neg (by decide), h6i, zb_some]
  cases hz : p.tv l 0 with
  | stop c q =>
   have hc := tv_stop p l 0 c q hz
   show (if (c != 0) = true then some (F.mk 0 0 [], c, q) else none) = _
   rw [if_pos (by simp [hc])]; rfl
  | ok f =>
   obtain rfl := tv_ok _ _ _ _ hz
   show (if ((0 : Int) != 0) = true then some (F.mk 0 0 [], (0 : Int), (0 : Int)) else (i_cloneType n (p.ty l)).bind fun r39 => some (r39, (0 : Int), (0 : Int))) = some (p.ty l, 0, 0)
   rw [if_neg (by decide), h7]; rfl
 have he : tvl l p = (F.zz, 1, 0) := by unfold tvl; rw [if_neg h4, if_neg hok]
 rw [he]
 refine ((longs_ev l).and ((typesOK_ev l h4' hl).and (implExprOK_ev p))).mp fun n h => ?_
 obtain ⟨h1, ⟨h2, h3⟩, h5⟩ := h
 unfold i_TypeOf
 rw [h1, bind_some', if_neg (by simpa using h4), h3, bind_some', h5]
 cases hA : (decide (l.length ≤ 12) && l.all tgd) with
 | false => rw [if_pos (by decide)]; rfl
 | true =>
  have hB : (decide (p.size ≤ 150) && p.exok) = false := by
   cases hB : (decide (p.size ≤ 150) && p.exok) with
   | false => rfl
   | true => rw [hA, hB] at hok; exact absurd rfl hok
  rw [if_neg (by decide), bind_some', hB, if_pos (by decide)]; rfl

def t00 : T := T.mk 0 0 ⟨#[]⟩ []
theorem encT_ev (l : List F) (p : Pf) (hl : ∀ t ∈ l, t.sm) (hp : p.sm) : ∃ v : T × T × Int, T.nodes v.1 ≤ 150 ∧ T.nodes v.2.1 ≤ 150 ∧ Ev fun n => s_EncodeTyping n l p = some v ∧ i_EncodeTyping n l p = some (.ok v) := by
 have hI := iTypeOf_ev l p hl hp
 have h00 : T.nodes t00 ≤ 150 := by decide
 by_cases h4 : 4096 < l.length
 ·have he : tvl l p = (F.zz, 2, 0) := if_pos h4
  rw [he] at hI
  refine ⟨(t00, t00, 2), h00, h00, hI.mp fun n h => ⟨?_, ?_⟩⟩
  ·unfold s_EncodeTyping; rw [if_pos (by omega)]; rfl
  unfold i_EncodeTyping; rw [h, bind_some', if_pos (by decide)]; rfl
 have h4' : l.length ≤ 4096 := by omega
 by_cases hok : ((decide (l.length ≤ 12) && l.all tgd) && (decide (p.size ≤ 150) && p.exok)) = true
 ·have hok2 := hok
  simp only [Bool.and_eq_true, decide_eq_true_eq] at hok2
  obtain ⟨⟨ho1, ho2⟩, ho3, ho4⟩ := hok2
  have he : tvl l p = (p.tv l 0).enc := by unfold tvl; rw [if_neg h4, if_pos hok]
  rw [he] at hI
  have hps := ppsz_le p
  have hgd : ∀ f ∈ l, f.sm ∧ f.tyok = true ∧ f.size ≤ 150 := fun f hf => by
   have := List.all_eq_true.1 ho2 f hf
   simp only [tgd, Bool.and_eq_true, decide_eq_true_eq] at this
   exact ⟨hl f hf, this.2, this.1⟩
  have hA : (decide (l.length ≤ 12) && l.all tgd) = true := by rw [ho2, decide_eq_true ho1]; rfl
  have hB : (decide (p.size ≤ 150) && p.exok) = true := by rw [ho4, decide_eq_true ho3]; rfl
  have base := (typesOK_ev l h4' hl).and ((specExprOK_ev p hp).and (typeOf_ev p ho4 hp (by omega) l (fun f hf => ⟨hl f hf, (hgd f hf).2.1⟩) (by omega)))
  cases hz : p.tv l 0 with
  | stop c q =>
   have hc := tv_stop p l 0 c q hz
   rw [hz] at hI
   refine ⟨(t00, t00, c), h00, h00, (hI.and base).mp fun n ⟨h1, ⟨h2, _⟩, h3, h5⟩ => ⟨?_, ?_⟩⟩
   ·have h5s := (h5 0 (by omega) (by omega)).2
    rw [hz] at h5s
    unfold s_EncodeTyping
    rw [if_neg (by omega), h2, hA, bind_some', if_neg (by decide), h3, hB, bind_some', if_neg (by decide), h5s, bind_some']
    show (if (c != 0) = true then _ else _) = _
    rw [if_pos (by simp [hc])]; rfl
   unfold i_EncodeTyping
   rw [h1, bind_some']
   show (if (c != 0) = true then _ else _) = _
   rw [if_pos (by simp [hc])]; rfl
  | ok f =>
   rw [hz] at hI
   obtain ⟨t, ht, et⟩ := typ_ev p ho4 hp ho3 l 0 f hz hgd (lv2 0 l.length) (2 * (l.length : Int)) (lv2_len _ _) (lv2_lt _) (by omega) (by omega)
   obtain ⟨u, hu, eu⟩ := xt_ev p ho4 l 0 f hz (lv2 0 l.length) (2 * (l.length : Int)) (lv2_len _ _) (fun q hq => by have := lv2_lt _ q hq; omega) (by omega) (by omega)
   have hft := tv_tyok p ho4 l (fun q hq => (hgd q hq).2.1) _ _ hz
   have hfs : f.size ≤ 800 := by
    rw [tv_ok _ _ _ _ hz]
    have := ty_size p l 150 fun q hq => (hgd q hq).2.2
    omega
   have htn := ttree_nodes f
   have hgn : T.nodes (T.mk 3 0 ⟨#[111, 102]⟩ [u, F.ttree f]) ≤ 2000 := by simp only [T.nodes, tnodes]; omega
   have w1 : IntKind.i64.wrap (2 * (l.length : Int)) = 2 * (l.length : Int) := w64_eq (by omega) (by omega)
   have all := hI.and (base.and ((levels2_ev l.length (by omega)).and (et.and (eu.and ((typeTree_ev f hft).and ((bigBoth_ev t (by omega)).and (bigBoth_ev _ (show T.nodes (T.mk 3 0 ⟨#[111, 102]⟩ [u, F.ttree f]) ≤ 1000000000 by omega))))))))
   have key : Ev fun n => s_EncodeTyping n l p = some (if bigB t = true then (t00, t00, 11) else if bigB (T.mk 3 0 ⟨#[111, 102]⟩ [u, F.ttree f]) = true then (t00, t00, 11) else (t, T.mk 3 0 ⟨#[111, 102]⟩ [u, F.ttree f], 0)) ∧
     i_EncodeTyping n l p = some (.ok (if bigB t = true then (t00, t00, 11) else if bigB (T.mk 3 0 ⟨#[111, 102]⟩ [u, F.ttree f]) = true then (t00, t00, 11) else (t, T.mk 3 0 ⟨#[111, 102]⟩ [u, F.ttree f], 0))) := by
    refine all.mp fun n ⟨h1, ⟨⟨h2, _⟩, h3, h5⟩, ⟨k1, k2, k3⟩, ⟨k4, k5⟩, ⟨k6, k7⟩, ⟨k8, k9⟩, ⟨b1, b2⟩, b3, b4⟩ => ⟨?_, ?_⟩
    ·have h5s := (h5 0 (by omega) (by omega)).2
     rw [hz] at h5s
     unfold s_EncodeTyping
     rw [if_neg (by omega), h2, hA, bind_some', if_neg (by decide), h3, hB, bind_some', if_neg (by decide), h5s, bind_some']
     show (if ((0 : Int) != 0) = true then _ else _) = _
     rw [if_neg (by decide), k3, bind_some', w1, k5, bind_some', jn_eq, k7, bind_some']
     show (s_l09TypeTree n f).bind _ = _
     rw [k8, bind_some']
     show (s_l03Big n t).bind _ = _
     rw [b2, bind_some']
     cases bigB t with
     | true => rfl
     | false =>
      rw [if_neg (by decide), if_neg (by decide), b4, bind_some']
      cases bigB (T.mk 3 0 ⟨#[111, 102]⟩ [u, F.ttree f]) <;> rfl
    unfold i_EncodeTyping
    rw [h1, bind_some']
    show (if ((0 : Int) != 0) = true then _ else _) = _
    rw [if_neg (by decide), k1, bind_some', k2, bind_some', w1, k4, zb_ok, jn_eq, k6, zb_ok]
    show (i_typeTerm n f).bind _ = _
    rw [k9, bind_some']
    show (i_tooBig n t).bind _ = _
    rw [b1, bind_some']
    cases bigB t with
    | true => rfl
    | false =>
     rw [if_neg (by decide), if_neg (by decide), b3, bind_some']
     cases bigB (T.mk 3 0 ⟨#[111, 102]⟩ [u, F.ttree f]) <;> rfl
   refine ⟨_, ?_, ?_, key⟩
   ·split
    ·exact h00
    split
    ·exact h00
    rename_i hb _
    show T.nodes t ≤ 150
    unfold bigB at hb
    simp only [Bool.or_eq_true, decide_eq_true_eq, not_or] at hb
    omega
   split
   ·exact h00
   split
   ·exact h00
   rename_i _ hb
   show T.nodes (T.mk 3 0 ⟨#[111, 102]⟩ [u, F.ttree f]) ≤ 150
   unfold bigB at hb
   simp only [Bool.or_eq_true, decide_eq_true_eq, not_or] at hb
   omega
 have he : tvl l p = (F.zz, 1, 0) := by unfold tvl; rw [if_neg h4, if_neg hok]
 rw [he] at hI
 refine ⟨(t00, t00, 1), h00, h00, (hI.and ((typesOK_ev l h4' hl).and (specExprOK_ev p hp))).mp fun n ⟨h1, ⟨h2, _⟩, h3⟩ => ⟨?_, ?_⟩⟩
 ·unfold s_EncodeTyping
  rw [if_neg (by omega), h2, bind_some']
  cases hA : (decide (l.length ≤ 12) && l.all tgd) with
  | false => rw [if_pos (by decide)]; rfl
  | true =>
   have hB : (decide (p.size ≤ 150) && p.exok) = false := by
    cases hB : (decide (p.size ≤ 150) && p.exok) with
    | false => rfl
    | true => rw [hA, hB] at hok; exact absurd rfl hok
   rw [if_neg (by decide), h3, bind_some', hB, if_pos (by decide)]; rfl
 unfold i_EncodeTyping; rw [h1, bind_some', if_pos (by decide)]; rfl

end Go.Am.Ytpkeophkdemcpaa
