/- Plain laws: long forms. -/
import Derived.Test.YtaedacibojpfkaaDoorPsRes
import Derived.Test.YtaedacibojpfkaaDoorEsOKS
import Derived.Test.YtaedacibojpfkaaDoorEkLong
namespace Go.Am
open Go
mutual
def T.ary : T → Nat
  | .mk k _ _ ks => if k = 10 then aryl ks else 0
def aryl : List T → Nat
  | [] => 0
  | _ :: r => 1 + aryt r
def aryt : List T → Nat
  | [] => 0
  | b :: _ => b.ary
end
mutual
def T.tks : T → List T
  | .mk k _ _ ks => if k = 10 then tksl ks else []
def tksl : List T → List T
  | [] => []
  | a :: r => a :: tkst r
def tkst : List T → List T
  | [] => []
  | b :: _ => b.tks
end
def lams : Nat → T → T
  | 0, x => x
  | k + 1, x => lams k (.mk 4 0 ⟨#[]⟩ [x])
mutual
def T.lngs : T → Int → List T
  | .mk k _ _ ks, j => if k = 10 then lngl ks j else []
def lngl : List T → Int → List T
  | [], _ => []
  | a :: r, j => lams a.ary (.mk 5 (j + a.ary) ⟨#[]⟩ (a.lngs ((a.ary : Int) - 1))) :: lngt r (j - 1)
def lngt : List T → Int → List T
  | [], _ => []
  | b :: _, j => b.lngs j
end
/-- The long form of a variable. -/
def T.long (t : T) (v : Int) : T := lams t.ary (.mk 5 (v + t.ary) ⟨#[]⟩ (t.lngs ((t.ary : Int) - 1)))
def argf (f : T → Int → T) : List T → Int → List T
  | [], _ => []
  | b :: r, j => f b j :: argf f r (j - 1)
theorem argf_len (f : T → Int → T) : ∀ (l : List T) (j : Int), (argf f l j).length = l.length
  | [], _ => rfl
  | b :: r, j => by simp only [argf, List.length_cons, argf_len f r]
theorem lams_size : ∀ (k : Nat) (x : T), (lams k x).size = k + x.size
  | 0, x => by simp [lams]
  | k + 1, x => by rw [lams, lams_size k]; simp only [T.size, sizes]; omega
theorem ary_arr {n : Int} {s : ByteArray} {a b : T} : (T.mk 10 n s [a, b]).ary = 1 + b.ary := by simp only [T.ary, aryl, aryt, if_true]
theorem tks_arr {n : Int} {s : ByteArray} {a b : T} : (T.mk 10 n s [a, b]).tks = a :: b.tks := by simp only [T.tks, tksl, tkst, if_true]
theorem lngs_arr {n : Int} {s : ByteArray} {a b : T} (j : Int) : (T.mk 10 n s [a, b]).lngs j = a.long j :: b.lngs (j - 1) := by simp only [T.lngs, lngl, lngt, if_true]; rfl
theorem ary_no {k n : Int} {s : ByteArray} {ks : List T} (h : k ≠ 10) : (T.mk k n s ks).ary = 0 := by simp only [T.ary, if_neg h]
theorem tks_no {k n : Int} {s : ByteArray} {ks : List T} (h : k ≠ 10) : (T.mk k n s ks).tks = [] := by simp only [T.tks, if_neg h]
theorem lngs_no {k n : Int} {s : ByteArray} {ks : List T} (h : k ≠ 10) (j : Int) : (T.mk k n s ks).lngs j = [] := by simp only [T.lngs, if_neg h]
/-- A simple type is an arrow between two, or a base. -/
theorem simok_ind {p : T → Prop} (ha : ∀ n s a b, a.simok = true → b.simok = true → p a → p b → p (.mk 10 n s [a, b])) (hb : ∀ n s, p (.mk 9 n s [])) : ∀ t : T, t.simok = true → p t := by
  intro t
  induction t using T.ind with
  | _ k n s ks ih =>
    intro h
    simp only [T.simok] at h
    by_cases k9 : k = 9
    · rw [if_pos k9] at h
      simp only [Bool.and_eq_true, decide_eq_true_eq] at h
      obtain rfl := List.length_eq_zero_iff.1 h.2.2
      subst k9
      exact hb n s
    · rw [if_neg k9] at h
      by_cases k10 : k = 10
      · rw [if_pos k10] at h
        simp only [Bool.and_eq_true, decide_eq_true_eq] at h
        obtain ⟨_, _, hl, hf⟩ := h
        match ks, hl, hf, ih with
        | [a, b], _, hf, ih =>
          have hab : a.simok = true ∧ b.simok = true := by simpa [simoks] using hf
          subst k10
          exact ha n s a b hab.1 hab.2 (ih a (by simp) hab.1) (ih b (by simp) hab.2)
      · rw [if_neg k10] at h; cases h
theorem tks_len (t : T) (h : t.simok = true) : t.tks.length = t.ary := by
  refine simok_ind (p := fun t => t.tks.length = t.ary) (fun n s a b _ _ _ hb => ?_) (fun n s => ?_) t h
  · rw [tks_arr, ary_arr, List.length_cons, hb]; omega
  · rw [tks_no (by decide), ary_no (by decide)]; rfl
theorem lngs_argf (t : T) (h : t.simok = true) : ∀ j, t.lngs j = argf T.long t.tks j := by
  refine simok_ind (p := fun t => ∀ j, t.lngs j = argf T.long t.tks j) (fun n s a b _ _ _ hb j => ?_) (fun n s j => ?_) t h
  · rw [lngs_arr, tks_arr, hb]; rfl
  · rw [lngs_no (by decide), tks_no (by decide)]; rfl
theorem ary_size (t : T) (h : t.simok = true) : t.ary < t.size := by
  refine simok_ind (p := fun t => t.ary < t.size) (fun n s a b _ _ _ hb => ?_) (fun n s => ?_) t h
  · rw [ary_arr]; simp only [T.size, sizes]; omega
  · rw [ary_no (by decide)]; simp only [T.size]; omega
theorem long_size (t : T) (h : t.simok = true) : ∀ v, (t.long v).size = t.size := by
  have key : ∀ v j, (t.long v).size = t.size ∧ sizes (t.lngs j) + t.ary + 1 = t.size := by
    refine simok_ind (p := fun t => ∀ v j, (t.long v).size = t.size ∧ sizes (t.lngs j) + t.ary + 1 = t.size) (fun n s a b _ _ ha hb => ?_) (fun n s => ?_) t h
    · have hj : ∀ j, sizes ((T.mk 10 n s [a, b]).lngs j) + (T.mk 10 n s [a, b]).ary + 1 = (T.mk 10 n s [a, b]).size := by
        intro j
        have h1 := (ha j 0).1
        have h2 := (hb 0 (j - 1)).2
        rw [lngs_arr, ary_arr]
        simp only [sizes, T.size]
        omega
      refine fun v j => ⟨?_, hj j⟩
      unfold T.long
      rw [lams_size]
      have := hj (((T.mk 10 n s [a, b]).ary : Int) - 1)
      simp only [T.size] at this ⊢
      omega
    · intro v j
      unfold T.long
      rw [lams_size, lngs_no (by decide), lngs_no (by decide), ary_no (by decide)]
      simp [T.size, sizes]
  exact fun v => (key v 0).1
theorem tks_simok (t : T) (h : t.simok = true) : ∀ b ∈ t.tks, b.simok = true ∧ b.size < t.size := by
  refine simok_ind (p := fun t => ∀ b ∈ t.tks, b.simok = true ∧ b.size < t.size) (fun n s a b ha hb _ ihb x hx => ?_) (fun n s x hx => ?_) t h
  · rw [tks_arr] at hx
    rcases List.mem_cons.1 hx with rfl | hx
    · exact ⟨ha, by simp only [T.size, sizes]; omega⟩
    · have := ihb x hx
      exact ⟨this.1, by simp only [T.size, sizes] at this ⊢; omega⟩
  · rw [tks_no (by decide)] at hx; cases hx
end Go.Am
namespace Go.Am.YtaedacibojpfkaaDoor
open Go Go.Am

theorem takes_lp (t : T) (h : t.simok = true) : ∀ (m : Nat) (acc : List T), t.size ≤ m → acc.length + t.size ≤ 1000000 → ∃ e, i_takes_L1 m t.kind t.n t.name t.kids acc = some (acc ++ t.tks, e) := by
  refine simok_ind (p := fun t => ∀ (m : Nat) (acc : List T), t.size ≤ m → acc.length + t.size ≤ 1000000 → ∃ e, i_takes_L1 m t.kind t.n t.name t.kids acc = some (acc ++ t.tks, e)) (fun n s a b _ _ _ hb m acc hm hl => ?_) (fun n s m acc hm hl => ?_) t h
  · have hs : (T.mk 10 n s [a, b]).size = 1 + (a.size + (b.size + 0)) := by simp only [T.size, sizes]
    rw [hs] at hm hl
    obtain ⟨m, rfl⟩ : ∃ k, m = k + 1 := ⟨m - 1, by omega⟩
    obtain ⟨e, he⟩ := hb m (acc ++ [a]) (by omega) (by simp; omega)
    refine ⟨e, ?_⟩
    show i_takes_L1 (m + 1) 10 n s [a, b] acc = _
    rw [i_takes_L1, if_pos rfl, show idx [a, b] 0 = some a from rfl, bind_some', chk_of (by simp; omega), show idx [a, b] 1 = some b from rfl, bind_some', he, tks_arr]
    simp
  · have hs : (T.mk 9 n s []).size = 1 := by simp [T.size, sizes]
    rw [hs] at hm
    obtain ⟨m, rfl⟩ : ∃ k, m = k + 1 := ⟨m - 1, by omega⟩
    refine ⟨T.mk 9 n s [], ?_⟩
    show i_takes_L1 (m + 1) 9 n s [] acc = _
    rw [i_takes_L1, if_neg (by decide), tks_no (by decide), List.append_nil]
theorem takes_eq (t : T) (h : t.simok = true) (hs : t.size ≤ 1000) (n : Nat) (hn : t.size ≤ n) : ∃ e, i_takes n t = some (t.tks, e) := by
  obtain ⟨e, he⟩ := takes_lp t h n [] hn (by simp; omega)
  exact ⟨e, he⟩
theorem ileaf (n : Nat) (v b : Int) (h0 : 0 ≤ v) (hv : v ≤ 1000000) (hb0 : 0 ≤ b) (hb : b ≤ 1000000) : i_lift__nk (n + 1) (T.mk 5 v ⟨#[]⟩ []) 0 b = some (T.mk 5 (v + b) ⟨#[]⟩ []) := by
  have e0 : i_lift__nk (n + 1) (T.mk 5 v ⟨#[]⟩ []) 0 b = (if v ≥ IntKind.i64.wrap (0 + 0) then some (T.mk 5 (IntKind.i64.wrap (v + b)) ⟨#[]⟩ []) else some (T.mk 5 v ⟨#[]⟩ [])).bind fun r6 => some (T.mk r6.kind r6.n r6.name []) := by
    unfold i_lift__nk i_turned__nk_fn_i_lift_c1vv
    rw [i_turned__nk_fn_i_lift_c1vv_L1]
    unfold i_lift_c1__nk
    show ((if (5 : Int) = 5 then _ else _) : Option T).bind _ = _
    rw [if_pos rfl]
    show (((if v ≥ IntKind.i64.wrap (0 + 0) then some (T.mk 5 (IntKind.i64.wrap (v + b)) ⟨#[]⟩ []) else some (T.mk 5 v ⟨#[]⟩ [])).bind fun r6 => some (T.mk r6.kind r6.n r6.name [])).bind fun r4 => some (T.mk r4.kind r4.n r4.name [])) = _
    split <;> rfl
  rw [e0, w64_eq (by omega) (by omega), if_pos (by omega), w64_eq (by omega) (by omega)]; rfl
theorem sleaf (n : Nat) (v b : Int) (h0 : 0 ≤ v) (hv : v ≤ 1000000) (hb0 : 0 ≤ b) (hb : b ≤ 1000000) : s_l01Lift (n + 2) (T.mk 5 v ⟨#[]⟩ []) 0 b = some (T.mk 5 (v + b) ⟨#[]⟩ []) := by
  have e0 : s_l01Lift (n + 2) (T.mk 5 v ⟨#[]⟩ []) 0 b = if v ≥ 0 then some (T.mk 5 (IntKind.i64.wrap (v + b)) ⟨#[]⟩ []) else some (T.mk 5 v ⟨#[]⟩ []) := by
    rw [s_l01Lift, s_l01Lift_L1]
    show (if (0 : Int) < ((([] : List T).length : Nat) : Int) then _ else _) = _
    rw [if_neg (by simp)]
    rfl
  rw [e0, if_pos (by omega), w64_eq (by omega) (by omega)]
theorem ilams_lp (r3 : List T × T) (K : Nat) (hK : r3.1.length = K) (hK2 : K ≤ 1000) : ∀ (k : Nat) (m i : Nat) (x : T), i + k = K → k < m → i_longForm__nk_L2 r3 m (i : Int) x.kind x.n x.name x.kids = some (lams k x)
  | 0, m, i, x, hi, hm => by
    obtain ⟨m, rfl⟩ : ∃ k, m = k + 1 := ⟨m - 1, by omega⟩
    rw [i_longForm__nk_L2, if_neg (by omega)]
    cases x; rfl
  | k + 1, m, i, x, hi, hm => by
    obtain ⟨m, rfl⟩ : ∃ k, m = k + 1 := ⟨m - 1, by omega⟩
    rw [i_longForm__nk_L2, if_pos (by omega), w64_eq (by omega) (by omega), lams]
    have hx : T.mk x.kind x.n x.name x.kids = x := by cases x; rfl
    rw [hx, ← ilams_lp r3 K hK hK2 k m (i + 1) (T.mk 4 0 ⟨#[]⟩ [x]) (by omega) (by omega)]
    rfl
theorem slams_lp : ∀ (k : Nat) (m : Nat) (x : T), k ≤ 1000 → k < m → s_l03Long_L3 m (k : Int) x.kind x.n x.name x.kids = some (lams k x)
  | 0, m, x, hk, hm => by
    obtain ⟨m, rfl⟩ : ∃ k, m = k + 1 := ⟨m - 1, by omega⟩
    rw [s_l03Long_L3, if_neg (by omega)]
    cases x; rfl
  | k + 1, m, x, hk, hm => by
    obtain ⟨m, rfl⟩ : ∃ k, m = k + 1 := ⟨m - 1, by omega⟩
    have hx : T.mk x.kind x.n x.name x.kids = x := by cases x; rfl
    rw [s_l03Long_L3, if_pos (by omega), w64_eq (by omega) (by omega), lams, hx, show ((k + 1 : Nat) : Int) - 1 = (k : Int) by omega, ← slams_lp k m (T.mk 4 0 ⟨#[]⟩ [x]) (by omega) (by omega)]
    rfl
theorem ilong_lp (rec : T → T → Option T) (n : Nat) (l : List T) (e : T) (r16 : T) (hl : l.length ≤ 1000) (H : ∀ y ∈ l, ∀ v : Int, 0 ≤ v → v ≤ 1000 → rec (T.mk 5 v ⟨#[]⟩ []) y = some (y.long v)) (hn : l.length < n) :
    ∀ (r a acc : List T) (m : Nat), l = a ++ r → acc.length = a.length → r.length < m → i_longForm__nk_L1 rec n (l, e) r16 m a.length acc = some (lams l.length (T.mk r16.kind r16.n r16.name (acc ++ argf T.long r ((l.length : Int) - 1 - a.length))))
  | [], a, acc, m, he, ha, hm => by
    obtain ⟨m, rfl⟩ : ∃ k, m = k + 1 := ⟨m - 1, by omega⟩
    have hla : l.length = a.length := by rw [he]; simp
    rw [i_longForm__nk_L1, if_neg (by show ¬ (a.length : Int) < (l.length : Int); omega)]
    have := ilams_lp (l, e) l.length rfl hl l.length n 0 (T.mk r16.kind r16.n r16.name acc) (by omega) hn
    rw [show argf T.long [] ((l.length : Int) - 1 - a.length) = [] from rfl, List.append_nil]
    exact this
  | y :: r, a, acc, m, he, ha, hm => by
    obtain ⟨m, rfl⟩ : ∃ k, m = k + 1 := ⟨m - 1, by omega⟩
    have hy : y ∈ l := by rw [he]; simp
    have e1 : (a.length : Int) < (l.length : Int) := by rw [he]; exact lt_mid a y r
    have e2 : idx l (a.length : Int) = some y := by rw [he]; exact idx_mid a y r
    have hla : l.length = a.length + (r.length + 1) := by rw [he]; simp
    have hw : IntKind.i64.wrap ((a.length : Int) + 1) = ((a ++ [y]).length : Int) := w64_mid a y r (by rw [← he]; omega)
    have ih := ilong_lp rec n l e r16 hl H hn r (a ++ [y]) (acc ++ [y.long ((l.length : Int) - 1 - a.length)]) m (by simp [he]) (by simp [ha]) (by simpa using hm)
    rw [i_longForm__nk_L1, if_pos e1, show idx (l, e).1 (a.length : Int) = some y from e2, bind_some', show ((l, e).1.length : Int) = (l.length : Int) from rfl, w64_eq (x := (l.length : Int) - 1) (by omega) (by omega), w64_eq (x := (l.length : Int) - 1 - a.length) (by omega) (by omega), H y hy _ (by omega) (by omega), bind_some', chk_of (by simp; omega), hw, ih]
    rw [show ((a ++ [y]).length : Int) = (a.length : Int) + 1 by simp, show (l.length : Int) - 1 - ((a.length : Int) + 1) = (l.length : Int) - 1 - a.length - 1 by omega]
    simp only [argf, List.append_assoc, List.singleton_append]
/-- The spec's walk along the arrows. -/
theorem slong_lp (rec : T → T → Option T) (n : Nat) (K : Nat) (r14 : T) (hK : K ≤ 1000) (hn : K < n) (t : T) (h : t.simok = true) (hs : t.size ≤ 1000) (H : ∀ y ∈ t.tks, ∀ v : Int, 0 ≤ v → v ≤ 1000 → rec (T.mk 5 v ⟨#[]⟩ []) y = some (y.long v)) :
    ∀ (m : Nat) (acc : List T), acc.length + t.size ≤ 100000 → t.size ≤ m → s_l03Long_L2 rec n (K : Int) r14 m ((t.ary : Int) - 1) t.kind t.n t.name t.kids acc = some (lams K (T.mk r14.kind r14.n r14.name (acc ++ t.lngs ((t.ary : Int) - 1)))) := by
  revert hs H
  refine simok_ind (p := fun t => t.size ≤ 1000 → (∀ y ∈ t.tks, ∀ v : Int, 0 ≤ v → v ≤ 1000 → rec (T.mk 5 v ⟨#[]⟩ []) y = some (y.long v)) → ∀ (m : Nat) (acc : List T), acc.length + t.size ≤ 100000 → t.size ≤ m → s_l03Long_L2 rec n (K : Int) r14 m ((t.ary : Int) - 1) t.kind t.n t.name t.kids acc = some (lams K (T.mk r14.kind r14.n r14.name (acc ++ t.lngs ((t.ary : Int) - 1))))) (fun n' s a b _ hbok _ hb hs H m acc hm hl => ?_) (fun n' s hs H m acc hm hl => ?_) t h
  · have hsz : (T.mk 10 n' s [a, b]).size = 1 + (a.size + (b.size + 0)) := by simp only [T.size, sizes]
    rw [hsz] at hm hl hs
    obtain ⟨m, rfl⟩ : ∃ k, m = k + 1 := ⟨m - 1, by omega⟩
    have hbs := ary_size b hbok
    rw [ary_arr, tks_arr] at *
    have h1 := H a (by simp) ((b.ary : Int)) (by omega) (by omega)
    have h2 := hb (by omega) (fun y hy => H y (by simp [hy])) m (acc ++ [a.long (b.ary : Int)]) (by simp; omega) (by omega)
    rw [show (((1 + b.ary : Nat) : Int) - 1) = (b.ary : Int) by omega]
    show s_l03Long_L2 rec n (K : Int) r14 (m + 1) (b.ary : Int) 10 n' s [a, b] acc = _
    rw [s_l03Long_L2, if_pos (by omega), show idx [a, b] 0 = some a from rfl, bind_some', h1, bind_some', chk_of (by simp; omega), show idx [a, b] 1 = some b from rfl, bind_some', w64_eq (by omega) (by omega), h2, lngs_arr]
    simp only [List.append_assoc, List.singleton_append]
  · have hsz : (T.mk 9 n' s []).size = 1 := by simp [T.size, sizes]
    rw [hsz] at hl
    obtain ⟨m, rfl⟩ : ∃ k, m = k + 1 := ⟨m - 1, by omega⟩
    rw [ary_no (by decide), lngs_no (by decide), List.append_nil]
    show s_l03Long_L2 rec n (K : Int) r14 (m + 1) (((0 : Nat) : Int) - 1) 9 n' s [] acc = _
    rw [s_l03Long_L2, if_neg (by omega)]
    exact slams_lp K n (T.mk r14.kind r14.n r14.name acc) hK hn
theorem scount_lp (rec : T → T → Option T) (n : Nat) (x1 x2 : T) (K : Nat) (t : T) (h : t.simok = true) : ∀ (m i : Nat), i + t.ary = K → K ≤ 1000 → t.size ≤ m →
    s_l03Long_L1 rec n x1 x2 m (i : Int) t.kind t.n t.name t.kids = (s_l01Lift n x1 0 (K : Int)).bind fun r14 => chk ((([] : List T)).length + (r14.kids).length ≤ 1099511627776) <| s_l03Long_L2 rec n (K : Int) r14 n (IntKind.i64.wrap ((K : Int) - 1)) x2.kind x2.n x2.name x2.kids r14.kids := by
  refine simok_ind (p := fun t => ∀ (m i : Nat), i + t.ary = K → K ≤ 1000 → t.size ≤ m → s_l03Long_L1 rec n x1 x2 m (i : Int) t.kind t.n t.name t.kids = (s_l01Lift n x1 0 (K : Int)).bind fun r14 => chk ((([] : List T)).length + (r14.kids).length ≤ 1099511627776) <| s_l03Long_L2 rec n (K : Int) r14 n (IntKind.i64.wrap ((K : Int) - 1)) x2.kind x2.n x2.name x2.kids r14.kids) (fun n' s a b _ _ _ hb m i hi hK hm => ?_) (fun n' s m i hi hK hm => ?_) t h
  · have hsz : (T.mk 10 n' s [a, b]).size = 1 + (a.size + (b.size + 0)) := by simp only [T.size, sizes]
    rw [hsz] at hm
    obtain ⟨m, rfl⟩ : ∃ k, m = k + 1 := ⟨m - 1, by omega⟩
    rw [ary_arr] at hi
    show s_l03Long_L1 rec n x1 x2 (m + 1) (i : Int) 10 n' s [a, b] = _
    rw [s_l03Long_L1, if_pos rfl, show idx [a, b] 1 = some b from rfl, bind_some', w64_eq (by omega) (by omega)]
    exact hb m (i + 1) (by omega) hK (by omega)
  · have hsz : (T.mk 9 n' s []).size = 1 := by simp [T.size, sizes]
    rw [hsz] at hm
    obtain ⟨m, rfl⟩ : ∃ k, m = k + 1 := ⟨m - 1, by omega⟩
    rw [ary_no (by decide)] at hi
    obtain rfl : i = K := by omega
    show s_l03Long_L1 rec n x1 x2 (m + 1) (i : Int) 9 n' s [] = _
    rw [s_l03Long_L1, if_neg (by decide)]

theorem long_ev : ∀ (N : Nat) (t : T), t.size ≤ N → t.simok = true → t.size ≤ 150 → Ev fun n => ∀ v : Int, 0 ≤ v → v ≤ 1000 → i_longForm__nk n (T.mk 5 v ⟨#[]⟩ []) t = some (t.long v) ∧ s_l03Long n (T.mk 5 v ⟨#[]⟩ []) t = some (t.long v)
  | 0, t, hN, _, _ => by have := size_pos t; omega
  | N + 1, t, hN, h, hs => by
    have hts := tks_simok t h
    have htl := tks_len t h
    have has := ary_size t h
    have hE : Ev fun n => ∀ y ∈ t.tks, ∀ v : Int, 0 ≤ v → v ≤ 1000 → i_longForm__nk n (T.mk 5 v ⟨#[]⟩ []) y = some (y.long v) ∧ s_l03Long n (T.mk 5 v ⟨#[]⟩ []) y = some (y.long v) :=
      Ev.all fun y hy => long_ev N y (by have := (hts y hy).2; omega) (hts y hy).1 (by have := (hts y hy).2; omega)
    refine hE.up 1000 fun fu hfu H v h0 hv => ⟨?_, ?_⟩
    · obtain ⟨e, he⟩ := takes_eq t h (by omega) fu (by omega)
      obtain ⟨g, rfl⟩ : ∃ k, fu = k + 1 := ⟨fu - 1, by omega⟩
      rw [i_longForm__nk, he, bind_some']
      show (i_lift__nk (g + 1) (T.mk 5 v ⟨#[]⟩ []) 0 ((t.tks.length : Nat) : Int)).bind _ = _
      rw [ileaf g v _ h0 (by omega) (by omega) (by omega), bind_some']
      have hlp := ilong_lp (i_longForm__nk (g + 1)) (g + 1) t.tks e (T.mk 5 (v + (t.tks.length : Int)) ⟨#[]⟩ []) (by omega) (fun y hy v a b => (H y hy v a b).1) (by omega)
      have hfin : t.long v = lams t.tks.length (T.mk 5 (v + (t.tks.length : Int)) ⟨#[]⟩ (argf T.long t.tks ((t.tks.length : Int) - 1))) := by
        show lams t.ary (T.mk 5 (v + t.ary) ⟨#[]⟩ (t.lngs ((t.ary : Int) - 1))) = _
        rw [lngs_argf t h, htl]
      rw [hfin]
      cases hks : t.tks with
      | nil => rfl
      | cons y r =>
        rw [hks] at hlp H htl
        obtain ⟨K, hK⟩ : ∃ K : Nat, (y :: r).length = K := ⟨_, rfl⟩
        have hK1 : 1 ≤ K := by rw [← hK]; simp
        rw [hK] at htl hlp
        have hyv := (H y (by simp) ((K : Int) - 1) (by omega) (by omega)).1
        have h1 := hlp r [y] [y.long ((K : Int) - 1)] (g + 1) rfl rfl (by simp at hK; omega)
        dsimp only
        rw [hK, if_pos (by omega), show idx (y :: r) 0 = some y from rfl, bind_some', w64_eq (x := (K : Int) - 1) (by omega) (by omega), Int.sub_zero, w64_eq (x := (K : Int) - 1) (by omega) (by omega), hyv, bind_some', chk_of (by simp), w64_eq (by omega) (by omega)]
        exact h1
    · obtain ⟨g, rfl⟩ : ∃ k, fu = k + 2 := ⟨fu - 2, by omega⟩
      rw [s_l03Long]
      have h1 := scount_lp (s_l03Long (g + 2)) (g + 2) (T.mk 5 v ⟨#[]⟩ []) t t.ary t h (g + 2) 0 (by omega) (by omega) (by omega)
      rw [show (0 : Int) = ((0 : Nat) : Int) from rfl, h1]
      rw [sleaf g v _ h0 (by omega) (by omega) (by omega), bind_some', chk_of (by simp [tkids]), w64_eq (by omega) (by omega)]
      have h2 := slong_lp (s_l03Long (g + 2)) (g + 2) t.ary (T.mk 5 (v + (t.ary : Int)) ⟨#[]⟩ []) (by omega) (by omega) t h (by omega) (fun y hy v a b => (H y hy v a b).2) (g + 2) [] (by simp; omega) (by omega)
      exact h2

end Go.Am.YtaedacibojpfkaaDoor
