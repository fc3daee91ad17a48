/- Plain laws: the law MoreVars: a drawn expression has the same type with one variable more ahead of all, and its typing is the same term. -/
import Derived.Test.YtpkeophkdemcpaaPvWide
import Derived.Test.YtpkeophkdemcpaaPdExpr
import Derived.Test.YtpkeophkdemcpaaGwMoreVars
import Derived.Test.YtpkeophkdemcpaaRdA
namespace Go.Am.Ytpkeophkdemcpaa
open Go Go.Am

theorem typ_var {hs : List F} {ls : List Int} {n d y : Int} (m : Nat) (h0 : 0 ≤ n) (hn : n < ls.length) (hlen : ls.length ≤ 20000) (hy : ls[((ls.length : Int) - 1 - n).toNat]? = some y) (hr0 : 0 ≤ y) (hr1 : y + 1 < d) (hd : d ≤ 20000) :
  i_typer_typing__c (m + 1) (hs, ls, up1 ls) (Pf.mk 1 n [] []) d = some (.ok (T.mk 5 (d - 2 - y) ⟨#[]⟩ [])) := by
 have w1 : IntKind.i64.wrap ((ls.length : Int) - 1) = (ls.length : Int) - 1 := w64_eq (by omega) (by omega)
 have w2 : IntKind.i64.wrap ((ls.length : Int) - 1 - n) = (ls.length : Int) - 1 - n := w64_eq (by omega) (by omega)
 have hix2 : idx (up1 ls) ((ls.length : Int) - 1 - n) = some (y + 1) := by
  unfold idx up1
  rw [if_pos (by omega), List.getElem?_map, hy]; rfl
 have hul : (up1 ls).length = ls.length := by unfold up1; simp
 have w3 : IntKind.i64.wrap (d - 1) = d - 1 := w64_eq (by omega) (by omega)
 have w4 : IntKind.i64.wrap (d - 1 - (y + 1)) = d - 2 - y := by rw [w64_eq (by omega) (by omega)]; omega
 rw [i_typer_typing__c, if_pos (show (Pf.mk 1 n [] []).kind = 1 from rfl)]
 show (i_levels_variable (up1 ls) n d).bind _ = _
 unfold i_levels_variable
 rw [hul, w1, w2, hix2, bind_some', bind_some', w3, w4]

theorem typ_lam {hs : List F} {ls : List Int} {a g : F} {b : Pf} {n d : Int} {u t : T} {m : Nat} (hl : hs.length ≤ 20000) (hls : ls.length ≤ 20000) (hd0 : 0 ≤ d) (hd : d ≤ 20000)
  (q2 : i_typeTerm m a = some (F.ttree a)) (hto : i_typeOf m (hs ++ [a]) b 0 = some (.ok g)) (q4 : i_typeTerm m g = some (F.ttree g)) (q7 : i_levels_exprTerm m (ls ++ [d]) b (d + 1) = some (.ok u))
  (q5 : i_typer_typing__c m (hs ++ [a], ls ++ [d], up1 (ls ++ [d])) b (d + 2) = some (.ok t)) :
  i_typer_typing__c (m + 1) (hs, ls, up1 ls) (Pf.mk 3 n [a] [b]) d = some (.ok (T.mk 6 0 ⟨#[111, 102, 108, 97, 109]⟩ [F.ttree a, F.ttree g, T.mk 4 0 ⟨#[]⟩ [u], T.mk 4 0 ⟨#[]⟩ [T.mk 4 0 ⟨#[]⟩ [t]]])) := by
 have w1 : IntKind.i64.wrap (d + 1) = d + 1 := w64_eq (by omega) (by omega)
 have w2 : IntKind.i64.wrap (d + 2) = d + 2 := w64_eq (by omega) (by omega)
 have e0 : i_typer_typing__c (m + 1) (hs, ls, up1 ls) (Pf.mk 3 n [a] [b]) d = chk (hs.length + [a].length ≤ 1099511627776) ((i_levels_with ls d).bind fun r131 => (i_levels_with (up1 ls) (IntKind.i64.wrap (d + 1))).bind fun r138 =>
   (i_typeTerm m a).bind fun r170 => zb (i_typeOf m (hs ++ [a]) b 0) fun r177 => (i_typeTerm m r177).bind fun r186 => zb (i_levels_exprTerm m r131 b (IntKind.i64.wrap (d + 1))) fun r193 => zb (i_typer_typing__c m (hs ++ [a], r131, r138) b (IntKind.i64.wrap (d + 2))) fun r202 =>
   some (.ok (T.mk 6 0 ⟨#[111, 102, 108, 97, 109]⟩ [r170, r186, (T.mk 4 0 ⟨#[]⟩ [r193]), (T.mk 4 0 ⟨#[]⟩ [(T.mk 4 0 ⟨#[]⟩ [r202])])]))) := by rw [i_typer_typing__c]; rfl
 have hul : (up1 ls).length = ls.length := by unfold up1; simp
 rw [e0, chk_of (by simp; omega), w1]
 unfold i_levels_with
 rw [chk_of (by simp only [List.length_singleton]; omega), bind_some', chk_of (by simp only [List.length_singleton]; omega), bind_some', q2, bind_some', hto, zb_ok, q4, bind_some', q7, zb_ok, w2, ← up1_snoc, q5, zb_ok]

theorem typ_app {hs : List F} {ls : List Int} {a b : Pf} {n d : Int} {g v1 f : F} {u1 u2 t1 t2 : T} {m : Nat} (ek : g.kids = [v1, f])
  (hto : i_typeOf m hs a 0 = some (.ok g)) (r1 : i_levels_exprTerm m ls a d = some (.ok u1)) (r3 : i_levels_exprTerm m ls b d = some (.ok u2)) (q2 : i_typeTerm m v1 = some (F.ttree v1)) (q4 : i_typeTerm m f = some (F.ttree f))
  (q5 : i_typer_typing__c m (hs, ls, up1 ls) a d = some (.ok t1)) (q7 : i_typer_typing__c m (hs, ls, up1 ls) b d = some (.ok t2)) :
  i_typer_typing__c (m + 1) (hs, ls, up1 ls) (Pf.mk 2 n [] [a, b]) d = some (.ok (T.mk 6 0 ⟨#[111, 102, 97, 112, 112]⟩ [u1, u2, F.ttree v1, F.ttree f, t1, t2])) := by
 have e0 : i_typer_typing__c (m + 1) (hs, ls, up1 ls) (Pf.mk 2 n [] [a, b]) d = zb (i_typeOf m hs (Pf.mk a.kind a.n a.forms a.kids) 0) fun r39 => (idx r39.kids 0).bind fun y57 => (idx r39.kids 1).bind fun y62 =>
   zb (i_levels_exprTerm m ls (Pf.mk a.kind a.n a.forms a.kids) d) fun r67 => zb (i_levels_exprTerm m ls (Pf.mk b.kind b.n b.forms b.kids) d) fun r76 => (i_typeTerm m y57).bind fun r85 => (i_typeTerm m y62).bind fun r92 =>
   zb (i_typer_typing__c m (hs, ls, up1 ls) (Pf.mk a.kind a.n a.forms a.kids) d) fun r99 => zb (i_typer_typing__c m (hs, ls, up1 ls) (Pf.mk b.kind b.n b.forms b.kids) d) fun r108 =>
   some (.ok (T.mk 6 0 ⟨#[111, 102, 97, 112, 112]⟩ [r67, r76, r85, r92, r99, r108])) := by rw [i_typer_typing__c]; rfl
 rw [e0, Pf_eta, Pf_eta, hto, zb_ok, ek, show idx [v1, f] 0 = some v1 from rfl, show idx [v1, f] 1 = some f from rfl, bind_some', bind_some', r1, zb_ok, r3, zb_ok, q2, bind_some', q4, bind_some', q5, zb_ok, q7, zb_ok]

/-- The proof that an expression has its type, and the same in the wider context. -/
theorem wtyp_ev (x : Pf) : x.exok = true → x.sm → x.size ≤ 150 → ∀ (h0 : F) (hs : List F) (at_ : Int) (f : F), x.tv hs at_ = .ok f → (h0.sm ∧ h0.tyok = true) → (∀ g ∈ hs, g.sm ∧ g.tyok = true ∧ g.size ≤ 150) → ∀ (ls : List Int) (d l0 : Int), ls.length = hs.length → (∀ l ∈ ls, 0 ≤ l ∧ l + 1 < d) → 0 ≤ d → d + 2 * x.size + hs.length ≤ 10000 →
  ∃ t : T, T.nodes t ≤ 5000 * x.size ∧ Ev fun n => i_typer_typing__c n (hs, ls, up1 ls) x d = some (.ok t) ∧ i_typer_typing__c n (h0 :: hs, l0 :: up2 ls, up1 (l0 :: up2 ls)) x (d + 2) = some (.ok t) := by
 induction x using Pf.ind with
 | _ k n fs ks ih =>
  intro hok hsm hsz h0 hs at_ f htv hh0 hh ls d l0 hlen hl hd hb
  obtain ⟨⟨hfl, hfs⟩, hkl, hks⟩ := psm_kids hsm
  have hwl : (l0 :: up2 ls).length = ls.length + 1 := by simp [up2_len]
  rcases exok_rules hok with ⟨rfl, hn0, hn1, rfl, rfl⟩ | ⟨rfl, a, b, rfl, rfl, ha, hbk⟩ | ⟨rfl, a, b, rfl, rfl, ha, hbk⟩
  ·have hs1 : (Pf.mk 1 n [] []).size = 1 := by simp only [Pf.size, fsizes, psizes]
   rw [hs1] at hb ⊢
   have hv := tv_var htv
   have hlt : ((ls.length : Int) - 1 - n).toNat < ls.length := by omega
   obtain ⟨y, hy⟩ : ∃ y, y = ls[((ls.length : Int) - 1 - n).toNat]'hlt := ⟨_, rfl⟩
   have hix : ls[((ls.length : Int) - 1 - n).toNat]? = some y := by rw [List.getElem?_eq_getElem hlt, hy]
   have hyr := hl y (by rw [hy]; exact List.getElem_mem hlt)
   have hix2 : (l0 :: up2 ls)[(((l0 :: up2 ls).length : Int) - 1 - n).toNat]? = some (y + 2) := by
    rw [show (((l0 :: up2 ls).length : Int) - 1 - n).toNat = ((ls.length : Int) - 1 - n).toNat + 1 by rw [hwl]; omega, List.getElem?_cons_succ]
    unfold up2
    rw [List.getElem?_map, hix]; rfl
   refine ⟨T.mk 5 (d - 2 - y) ⟨#[]⟩ [], by simp only [T.nodes, tnodes]; omega, (Ev.of (p := fun _ => True) fun _ => trivial).up 0 fun m _ _ => ⟨typ_var m hn0 (by omega) (by omega) hix hyr.1 hyr.2 (by omega), ?_⟩⟩
   have := typ_var (hs := h0 :: hs) (d := d + 2) m hn0 (by rw [hwl]; omega) (by rw [hwl]; omega) hix2 (by omega) (by omega) (by omega)
   rw [show d + 2 - 2 - (y + 2) = d - 2 - y by omega] at this
   exact this
  ·have hpz : (Pf.mk 3 n [a] [b]).size = 1 + a.size + b.size := by simp only [Pf.size, fsizes, psizes]; omega
   have hfp := fsize_pos a
   rw [hpz] at hb hsz ⊢
   obtain ⟨g, hg, hfe⟩ := tv_lam htv
   have hg : b.tv (hs ++ [a]) (at_ + 1) = .ok g := hg
   have hgw : b.tv (h0 :: (hs ++ [a])) (at_ + 1) = .ok g := tv_wide b hbk h0 _ _ _ hg
   have hh2 : ∀ g ∈ hs ++ [a], g.sm ∧ g.tyok = true ∧ g.size ≤ 150 := fun q hq => by
    rcases List.mem_append.1 hq with h | h
    ·exact hh q h
    rw [List.mem_singleton.1 h]; exact ⟨hfs a (by simp), ha, by omega⟩
   have hgt := tv_tyok b hbk (hs ++ [a]) (fun q hq => (hh2 q hq).2.1) _ _ hg
   have hgs : g.size ≤ 800 := by
    rw [tv_ok _ _ _ _ hg]
    have := ty_size b (hs ++ [a]) 150 fun q hq => (hh2 q hq).2.2
    omega
   obtain ⟨t, ht, et⟩ := ih b (by simp) hbk (hks b (by simp)) (by omega) h0 (hs ++ [a]) _ g hg hh0 hh2 (ls ++ [d]) (d + 2) l0 (by simp [hlen]) (fun l h => by
    rcases List.mem_append.1 h with q | q
    ·have := hl l q; omega
    rw [List.mem_singleton.1 q]; omega) (by omega) (by simp; omega)
   obtain ⟨u, hu, eu⟩ := wxt_ev b hbk (hs ++ [a]) _ g hg (ls ++ [d]) (d + 1) l0 (by simp [hlen]) (fun l h => by
    rcases List.mem_append.1 h with q | q
    ·have := hl l q; omega
    rw [List.mem_singleton.1 q]; omega) (by omega) (by simp; omega)
   have ety := typeOf_ev b hbk (hks b (by simp)) (by omega) (hs ++ [a]) (fun q hq => ⟨(hh2 q hq).1, (hh2 q hq).2.1⟩) (by simp; omega)
   have etw := typeOf_ev b hbk (hks b (by simp)) (by omega) (h0 :: (hs ++ [a])) (fun q hq => by
    rcases List.mem_cons.1 hq with rfl | hq
    ·exact hh0
    exact ⟨(hh2 q hq).1, (hh2 q hq).2.1⟩) (by simp; omega)
   have hpl := ppsz_le b
   refine ⟨T.mk 6 0 ⟨#[111, 102, 108, 97, 109]⟩ [F.ttree a, F.ttree g, T.mk 4 0 ⟨#[]⟩ [u], T.mk 4 0 ⟨#[]⟩ [T.mk 4 0 ⟨#[]⟩ [t]]], ?_, ((typeTree_ev a ha).and ((typeTree_ev g hgt).and (et.and (eu.and (ety.and etw))))).up 0 fun m _ ⟨⟨q1, q2⟩, ⟨q3, q4⟩, ⟨q5, q6⟩, ⟨q7, q8⟩, q9, q10⟩ => ⟨?_, ?_⟩⟩
   ·have h1 := ttree_nodes a
    have h2 := ttree_nodes g
    simp only [T.nodes, tnodes]; omega
   ·have hto : i_typeOf m (hs ++ [a]) b 0 = some (.ok g) := by rw [(q9 0 (by omega) (by omega)).1, tv_any _ _ _ _ hg 0]
    exact typ_lam (by omega) (by omega) hd (by omega) q2 hto q4 q7 q5
   have hto : i_typeOf m ((h0 :: hs) ++ [a]) b 0 = some (.ok g) := by
    have := (q10 0 (by omega) (by omega)).1
    rw [tv_any _ _ _ _ hgw 0] at this
    exact this
   have e1 : (l0 :: up2 ls) ++ [d + 2] = l0 :: up2 (ls ++ [d]) := by rw [up2_snoc]; rfl
   refine typ_lam (by simp; omega) (by rw [hwl]; omega) (by omega) (by omega) q2 hto q4 ?_ ?_
   ·rw [e1, show d + 2 + 1 = d + 1 + 2 by omega]; exact q8
   rw [e1]; exact q6
  have hpz : (Pf.mk 2 n [] [a, b]).size = 1 + a.size + b.size := by simp only [Pf.size, fsizes, psizes]; omega
  rw [hpz] at hb hsz ⊢
  obtain ⟨g, g2, c, h1, h2, hk, hfa, hfb⟩ := tv_app htv
  have h1w := tv_wide a ha h0 _ _ _ h1
  have hgt := tv_tyok a ha hs (fun q hq => (hh q hq).2.1) _ _ h1
  have hgs : g.size ≤ 800 := by
   rw [tv_ok _ _ _ _ h1]
   have := ty_size a hs 150 fun q hq => (hh q hq).2.2
   omega
  obtain ⟨v1, v2, ek, ht1, ht2⟩ := tyok_fun hgt hk
  have efa : fa g.kids = v1 := by rw [ek]; rfl
  have efb : fb g.kids = v2 := by rw [ek]; rfl
  obtain rfl : v1 = g2 := by rw [← efa, hfa]
  obtain rfl : f = v2 := by rw [hfb, efb]
  have hgk : g.size = 1 + v1.size + f.size := by
   obtain ⟨x1, x2, x3⟩ := g
   have : x3 = [v1, f] := ek
   subst this
   simp only [F.size, fsizes]; omega
  obtain ⟨t1, hn1, e1⟩ := ih a (by simp) ha (hks a (by simp)) (by omega) h0 hs _ g h1 hh0 hh ls d l0 hlen hl hd (by omega)
  obtain ⟨t2, hn2, e2⟩ := ih b (by simp) hbk (hks b (by simp)) (by omega) h0 hs _ v1 h2 hh0 hh ls d l0 hlen hl hd (by omega)
  have hl' : ∀ l ∈ ls, 0 ≤ l ∧ l < d := fun l h => by have := hl l h; omega
  obtain ⟨u1, hu1, e3⟩ := wxt_ev a ha hs _ g h1 ls d l0 hlen hl' hd (by omega)
  obtain ⟨u2, hu2, e4⟩ := wxt_ev b hbk hs _ v1 h2 ls d l0 hlen hl' hd (by omega)
  have ety := typeOf_ev a ha (hks a (by simp)) (by omega) hs (fun q hq => ⟨(hh q hq).1, (hh q hq).2.1⟩) (by omega)
  have etw := typeOf_ev a ha (hks a (by simp)) (by omega) (h0 :: hs) (fun q hq => by
   rcases List.mem_cons.1 hq with rfl | hq
   ·exact hh0
   exact ⟨(hh q hq).1, (hh q hq).2.1⟩) (by simp; omega)
  have hpl := ppsz_le a
  refine ⟨T.mk 6 0 ⟨#[111, 102, 97, 112, 112]⟩ [u1, u2, F.ttree v1, F.ttree f, t1, t2], ?_, ((typeTree_ev v1 ht1).and ((typeTree_ev f ht2).and (e1.and (e2.and (e3.and (e4.and (ety.and etw))))))).up 0 fun m _ ⟨⟨q1, q2⟩, ⟨q3, q4⟩, ⟨q5, q6⟩, ⟨q7, q8⟩, ⟨r1, r2⟩, ⟨r3, r4⟩, q9, q10⟩ => ⟨?_, ?_⟩⟩
  ·have h1 := ttree_nodes v1
   have h2 := ttree_nodes f
   simp only [T.nodes, tnodes]; omega
  ·have hto : i_typeOf m hs a 0 = some (.ok g) := by rw [(q9 0 (by omega) (by omega)).1, tv_any _ _ _ _ h1 0]
   exact typ_app ek hto r1 r3 q2 q4 q5 q7
  have hto : i_typeOf m (h0 :: hs) a 0 = some (.ok g) := by rw [(q10 0 (by omega) (by omega)).1, tv_any _ _ _ _ h1w 0]
  exact typ_app ek hto r2 r4 q2 q4 q6 q8

theorem lv2_wide (k : Nat) : lv2 0 (k + 1) = 0 :: up2 (lv2 0 k) := by
 unfold lv2 up2
 rw [List.range_succ_eq_map, List.map_cons, List.map_map, List.map_map]
 refine List.cons_eq_cons.2 ⟨rfl, List.map_congr_left fun j _ => ?_⟩
 show 0 + 2 * ((j + 1 : Nat) : Int) = 0 + 2 * (j : Int) + 2
 push_cast; omega

/-- The typing of an expression, and the same in the wider context. -/
theorem wencT_ev (h0 : F) (l : List F) (p : Pf) (hh0 : h0.sm ∧ tgd h0 = true) (hl : ∀ t ∈ l, t.sm) (hp : p.sm) (hlen : l.length ≤ 11) (hg : l.all tgd = true) (hsz : p.size ≤ 150) (hok : p.exok = true) {f : F} (hz : p.tv l 0 = .ok f) :
  ∃ v : T × T × Int, T.fits v.1 ∧ T.fits v.2.1 ∧ Ev fun n => i_EncodeTyping n l p = some (.ok v) ∧ i_EncodeTyping n ([h0] ++ l) p = some (.ok v) := by
 have hzw : p.tv (h0 :: l) 0 = .ok f := tv_wide p hok h0 _ _ _ hz
 have hh0' : h0.size ≤ 150 ∧ h0.tyok = true := by have := hh0.2; simpa only [tgd, Bool.and_eq_true, decide_eq_true_eq] using this
 have hgd : ∀ f ∈ l, f.sm ∧ f.tyok = true ∧ f.size ≤ 150 := fun f hf => by
  have := List.all_eq_true.1 hg f hf
  simp only [tgd, Bool.and_eq_true, decide_eq_true_eq] at this
  exact ⟨hl f hf, this.2, this.1⟩
 have he : tvl l p = (p.tv l 0).enc := by unfold tvl; rw [if_neg (by omega), hg, decide_eq_true (show l.length ≤ 12 by omega), hok, decide_eq_true hsz]; rfl
 have hew : tvl (h0 :: l) p = (p.tv (h0 :: l) 0).enc := by
  unfold tvl
  rw [if_neg (by simp; omega), decide_eq_true (show (h0 :: l).length ≤ 12 by simp; omega), hok, decide_eq_true hsz, List.all_cons, hh0.2, hg]; rfl
 have hI := iTypeOf_ev l p hl hp
 have hJ := iTypeOf_ev (h0 :: l) p (fun t ht => by
  rcases List.mem_cons.1 ht with rfl | ht
  ·exact hh0.1
  exact hl t ht) hp
 rw [he, hz] at hI
 rw [hew, hzw] at hJ
 obtain ⟨t, ht, et⟩ := wtyp_ev p hok hp hsz h0 l 0 f hz ⟨hh0.1, hh0'.2⟩ hgd (lv2 0 l.length) (2 * (l.length : Int)) 0 (lv2_len _ _) (lv2_lt _) (by omega) (by omega)
 obtain ⟨u, hu, eu⟩ := wxt_ev p hok l 0 f hz (lv2 0 l.length) (2 * (l.length : Int)) 0 (lv2_len _ _) (fun q hq => by have := lv2_lt _ q hq; omega) (by omega) (by omega)
 have hft := tv_tyok p hok l (fun q hq => (hgd q hq).2.1) _ _ hz
 have hfs : f.size ≤ 800 := by
  rw [tv_ok _ _ _ _ hz]
  have := ty_size p l 150 fun q hq => (hgd q hq).2.2
  omega
 have htn := ttree_nodes f
 have hgn : T.nodes (T.mk 3 0 ⟨#[111, 102]⟩ [u, F.ttree f]) ≤ 2000 := by simp only [T.nodes, tnodes]; omega
 have w1 : IntKind.i64.wrap (2 * (l.length : Int)) = 2 * (l.length : Int) := w64_eq (by omega) (by omega)
 have w2 : IntKind.i64.wrap (2 * ((l.length + 1 : Nat) : Int)) = 2 * (l.length : Int) + 2 := by rw [w64_eq (by omega) (by omega)]; push_cast; omega
 have sm0 : T.fits t00 := nodes_fits t00 (by decide)
 refine ⟨if bigB t = true then (t00, t00, 11) else if bigB (T.mk 3 0 ⟨#[111, 102]⟩ [u, F.ttree f]) = true then (t00, t00, 11) else (t, T.mk 3 0 ⟨#[111, 102]⟩ [u, F.ttree f], 0), ?_, ?_, ?_⟩
 ·split
  ·exact sm0
  split
  ·exact sm0
  exact nodes_fits t (by omega)
 ·split
  ·exact sm0
  split
  ·exact sm0
  exact nodes_fits (T.mk 3 0 ⟨#[111, 102]⟩ [u, F.ttree f]) (by omega)
 refine (hI.and (hJ.and ((levels2_ev l.length (by omega)).and ((levels2_ev (l.length + 1) (by omega)).and (et.and (eu.and ((typeTree_ev f hft).and ((bigBoth_ev t (by omega)).and (bigBoth_ev _ (show T.nodes (T.mk 3 0 ⟨#[111, 102]⟩ [u, F.ttree f]) ≤ 1000000000 by omega)))))))))).mp fun n ⟨h1, h2, ⟨k1, k2, _⟩, ⟨m1, m2, _⟩, ⟨k4, k5⟩, ⟨k6, k7⟩, ⟨_, k9⟩, ⟨b1, _⟩, b3, _⟩ => ⟨?_, ?_⟩
 ·unfold i_EncodeTyping
  rw [h1, bind_some']
  show (if ((0 : Int) != 0) = true then _ else _) = _
  rw [if_neg (by decide), k1, bind_some', k2, bind_some', w1, k4, zb_ok, jn_eq, k6, zb_ok]
  show (i_typeTerm n f).bind _ = _
  rw [k9, bind_some']
  show (i_tooBig n t).bind _ = _
  rw [b1, bind_some']
  cases bigB t with
  | true => rfl
  | false =>
   rw [if_neg (by decide), if_neg (by decide), b3, bind_some']
   cases bigB (T.mk 3 0 ⟨#[111, 102]⟩ [u, F.ttree f]) <;> rfl
 rw [lv2_wide] at m1 m2
 unfold i_EncodeTyping
 rw [show [h0] ++ l = h0 :: l from rfl, h2, bind_some']
 show (if ((0 : Int) != 0) = true then _ else _) = _
 rw [if_neg (by decide), show (h0 :: l).length = l.length + 1 from rfl, m1, bind_some', m2, bind_some', w2, k5, zb_ok, jn_eq, k7, zb_ok]
 show (i_typeTerm n f).bind _ = _
 rw [k9, bind_some']
 show (i_tooBig n t).bind _ = _
 rw [b1, bind_some']
 cases bigB t with
 | true => rfl
 | false =>
  rw [if_neg (by decide), if_neg (by decide), b3, bind_some']
  cases bigB (T.mk 3 0 ⟨#[111, 102]⟩ [u, F.ttree f]) <;> rfl

theorem wsameT_lp (rec : F → F → Option Bool) (x : F) (hl : x.kids.length ≤ 1048576) (H : ∀ y ∈ x.kids, rec y y = some true) :
  ∀ (r a : List F) (m : Nat), x.kids = a ++ r → r.length < m → w_sameType_L1 rec x x m a.length = some true
 | [], a, m, e, hm => by
  obtain ⟨m, rfl⟩ : ∃ k, m = k + 1 := ⟨m - 1, by omega⟩
  rw [w_sameType_L1, e, if_neg (lt_end a)]
 | y :: r, a, m, e, hm => by
  obtain ⟨m, rfl⟩ : ∃ k, m = k + 1 := ⟨m - 1, by simp at hm; omega⟩
  have hlen : (a ++ y :: r).length ≤ 9223372036854775807 := by rw [← e]; omega
  rw [w_sameType_L1, e, if_pos (lt_mid a y r), idx_mid, bind_some', bind_some', H y (by rw [e]; simp), bind_some', if_neg (by decide), w64_mid a y r hlen]
  exact wsameT_lp rec x hl H r (a ++ [y]) m (by rw [e]; simp) (by simp at hm; omega)

theorem wsameT_ev (t : F) : t.sm → Ev fun n => w_sameType n t t = some true := by
 induction t using F.ind with
 | _ k n ks ih =>
  intro hsm
  have hk := fsm_kids hsm
  refine (Ev.all (p := fun y n => w_sameType n y y = some true) fun y hy => ih y hy (hk.2 y hy)).up (ks.length + 1) fun n hn h => ?_
  rw [w_sameType, if_neg (by simp), if_neg (by simp), if_neg (by simp)]
  exact wsameT_lp (w_sameType n) (F.mk k _ ks) hk.1 h ks [] n rfl (by omega)

theorem wsameR_lp (rec : T → T → Option Bool) (x : T) (hl : x.kids.length ≤ 9223372036854775807) (H : ∀ y ∈ x.kids, rec y y = some true) :
  ∀ (r a : List T) (m : Nat), x.kids = a ++ r → r.length < m → w_same_L1 rec x x m a.length = some true
 | [], a, m, e, hm => by
  obtain ⟨m, rfl⟩ : ∃ k, m = k + 1 := ⟨m - 1, by omega⟩
  rw [w_same_L1, e, if_neg (lt_end a)]
 | y :: r, a, m, e, hm => by
  obtain ⟨m, rfl⟩ : ∃ k, m = k + 1 := ⟨m - 1, by simp at hm; omega⟩
  have hlen : (a ++ y :: r).length ≤ 9223372036854775807 := by rw [← e]; omega
  rw [w_same_L1, e, if_pos (lt_mid a y r), idx_mid, bind_some', bind_some', H y (by rw [e]; simp), bind_some', if_neg (by decide), w64_mid a y r hlen]
  exact wsameR_lp rec x hl H r (a ++ [y]) m (by rw [e]; simp) (by simp at hm; omega)

theorem fits_kids {k n : Int} {s : ByteArray} {ks : List T} (h : T.fits (T.mk k n s ks)) : ks.length ≤ 9223372036854775807 ∧ ∀ t ∈ ks, T.fits t := by
 unfold T.fits at h; exact h

theorem wsameR_ev (t : T) : T.fits t → Ev fun n => w_same n t t = some true := by
 induction t using T.ind with
 | _ k n s ks ih =>
  intro hsm
  have hk := fits_kids hsm
  refine (Ev.all (p := fun y n => w_same n y y = some true) fun y hy => ih y hy (hk.2 y hy)).up (ks.length + 1) fun n hn h => ?_
  rw [w_same, if_neg (by simp), if_neg (by simp), if_neg (by simp), if_neg (by simp)]
  exact wsameR_lp (w_same n) (T.mk k _ s ks) hk.1 h ks [] n rfl (by omega)

/-- The draw of a context and an expression with a type. -/
theorem exprOf_ev {l1 : List Int} (hc : Byt l1) : ∃ hs e t, (Ev fun n => s_ExprOf n l1 = some (hs, e, t)) ∧ Ex hs e t ∧ hs.length ≤ 3 ∧ (∀ g ∈ hs, Yt g ∧ g.size ≤ 10) := by
 have hy2 : ycost 2 = 10 := by decide
 obtain ⟨i, z1, e1, i0, i1, d1⟩ := next_dr hc Dr.start (by omega) (n := 4) (by omega) (by omega)
 obtain ⟨hs, z2, e2, hhs, hl, d2⟩ := tyCtx_lp hc i.toNat (l := []) d1 (by omega) (by rw [hy2]; omega) (by omega) (by simp; omega) (fun t h => by cases h)
 rw [show ((i.toNat : Nat) : Int) = i by omega] at e2
 have hl : hs.length = i.toNat := by rw [hl]; simp
 obtain ⟨r, z3, e3, r0, r1, d3⟩ := next_dr hc d2 (by rw [hy2]; omega) (n := 5) (by omega) (by omega)
 have hxc : xcost r.toNat ≤ 100000 := by
  have : r.toNat = 0 ∨ r.toNat = 1 ∨ r.toNat = 2 ∨ r.toNat = 3 ∨ r.toNat = 4 := by omega
  rcases this with h | h | h | h | h <;> rw [h] <;> decide
 obtain ⟨e, t, z4, e4, hx, _⟩ := expr_dr hc r.toNat (d := r) (hs := hs) (by omega) (by omega) (by omega) d3 (by rw [hy2]; omega) (by rw [hy2]; omega) (fun t ht => (hhs t ht).1) (by omega)
 refine ⟨hs, e, t, (e2.and e4).at 5 fun n hn ⟨q2, q4⟩ => ?_, hx, by omega, hhs⟩
 have e1' : s_l00Src_next (l1, 0, Int.tmod ((l1).length : Int) 1000) 4 = some (i, z1) := e1
 have q2' := q2 n (by omega)
 have e3' : s_l00Src_next (z2.1, z2.2.1, z2.2.2) 5 = some (r, z3) := e3
 have ht : s_l00Src_tyCtx n (l1, 0, Int.tmod ((l1).length : Int) 1000) = some (hs, z2) := by
  unfold s_l00Src_tyCtx
  show (s_l00Src_next (l1, 0, Int.tmod ((l1).length : Int) 1000) 4).bind _ = _
  rw [e1', bind_some']
  exact q2'
 unfold s_ExprOf
 rw [ht, bind_some']
 show (s_l00Src_next (z2.1, z2.2.1, z2.2.2) 5).bind _ = _
 rw [e3', bind_some']
 show (s_l00Src_expr n (z3.1, z3.2.1, z3.2.2) hs r).bind _ = _
 rw [q4]; rfl

theorem lawMoreVars_ev (l1 : List Int) (h1 : ∀ b ∈ l1, 0 ≤ b ∧ b ≤ 255) : Ev fun n => w_FnMoreVars n l1 = some (.ok true) := by
 by_cases b1 : ((l1).length : Int) > 1048576
 ·refine .of fun n => ?_
  unfold w_FnMoreVars; rw [if_pos b1]
 have hc1 : Byt l1 := ⟨by omega, h1⟩
 obtain ⟨hs, e, t, hE, hx, hl, hhs⟩ := exprOf_ev hc1
 have head : ∀ n, s_ExprOf n l1 = some (hs, e, t) → s_ExprOK n e = some (decide (e.size ≤ 150) && e.exok) → w_FnMoreVars n l1 = (if (!(decide (e.size ≤ 150) && e.exok)) = true then some (.ok true) else
   chk (([(F.mk 1 1 [])]).length + hs.length ≤ 1099511627776) <| (i_TypeOf n ([(F.mk 1 1 [])] ++ hs) e).bind fun r29 => if (r29.2.1 != 0) = true then some (.ok false) else (w_sameType n r29.1 t).bind fun r47 => if (!r47) = true then some (.ok false) else
   zb (i_EncodeTyping n hs e) fun r56 => zb (i_EncodeTyping n ([(F.mk 1 1 [])] ++ hs) e) fun r78 => if r56.2.2 = r78.2.2 then (w_same n r56.1 r78.1).bind fun r100 => if r100 = true then (w_same n r56.2.1 r78.2.1).bind fun r108 => some (.ok r108) else some (.ok false) else some (.ok false)) := by
  intro n q1 q2
  unfold w_FnMoreVars
  rw [if_neg b1, q1, bind_some']
  show (s_ExprOK n e).bind _ = _
  rw [q2]; rfl
 cases hok : (decide (e.size ≤ 150) && e.exok) with
 | false =>
  refine (hE.and (specExprOK_ev e hx.sm)).mp fun n ⟨q1, q2⟩ => ?_
  rw [head n q1 q2, hok, if_pos (by decide)]
 | true =>
  have hok2 := hok
  simp only [Bool.and_eq_true, decide_eq_true_eq] at hok2
  have hb0 : Yt (F.mk 1 1 []) := yt_base (by decide) (by decide)
  have hg0 : tgd (F.mk 1 1 []) = true := by decide
  have hall : hs.all tgd = true := List.all_eq_true.2 fun g hg => by
   unfold tgd
   rw [(hhs g hg).1.ok, decide_eq_true (by have := (hhs g hg).2; omega)]; rfl
  have hsm : ∀ g ∈ hs, g.sm := fun g hg => (hhs g hg).1.sm
  have htw : e.tv (F.mk 1 1 [] :: hs) 0 = .ok t := tv_wide e hok2.2 _ _ _ _ hx.tv
  have hI := iTypeOf_ev (F.mk 1 1 [] :: hs) e (fun g hg => by
   rcases List.mem_cons.1 hg with rfl | hg
   ·exact hb0.sm
   exact hsm g hg) hx.sm
  have hew : tvl (F.mk 1 1 [] :: hs) e = (t, 0, 0) := by
   unfold tvl
   rw [if_neg (by simp; omega), decide_eq_true (show (F.mk 1 1 [] :: hs).length ≤ 12 by simp; omega), hok, List.all_cons, hg0, hall, htw]; rfl
  rw [hew] at hI
  obtain ⟨v, v0, v1, hv⟩ := wencT_ev (F.mk 1 1 []) hs e ⟨hb0.sm, hg0⟩ hsm hx.sm (by omega) hall hok2.1 hok2.2 hx.tv
  refine (hE.and ((specExprOK_ev e hx.sm).and (hI.and (hv.and ((wsameT_ev t hx.ty.sm).and ((wsameR_ev v.1 v0).and (wsameR_ev v.2.1 v1))))))).mp fun n ⟨q1, q2, q3, ⟨q4, q5⟩, q6, q7, q8⟩ => ?_
  rw [head n q1 q2, hok, if_neg (by decide), chk_of (by simp; omega)]
  show (i_TypeOf n (F.mk 1 1 [] :: hs) e).bind _ = _
  rw [q3, bind_some']
  show (if ((0 : Int) != 0) = true then _ else (w_sameType n t t).bind _) = _
  rw [if_neg (by decide), q6, bind_some', if_neg (by decide), q4, zb_ok, q5, zb_ok, if_pos rfl, q7, bind_some', if_pos rfl, q8, bind_some']

theorem lawFnMoreVars_ok (l1 : List Int) (h1 : ∀ b ∈ l1, 0 ≤ b ∧ b ≤ 255) :
  ∀ tk, 2 ≤ tk → ACalls Go.Proofs.Try.prog 4 [.imm 0 1 false (l1.map fun n => [.int .u8 n])] (fun _ => none) tk (RetX (fun _ => none) tk (fun v _ => v = .bool true)) := by
 intro tk _
 obtain ⟨n, hn⟩ := (lawMoreVars_ev l1 h1).get
 exact (w_FnMoreVars_ok n 0 false l1 hn (fun _ => none) tk).mono fun out O' tk' h => h

end Go.Am.Ytpkeophkdemcpaa
