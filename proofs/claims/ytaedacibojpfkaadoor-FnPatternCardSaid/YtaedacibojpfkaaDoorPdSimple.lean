/- Plain laws of draws: simple types. -/
import Derived.Test.YtaedacibojpfkaaDoorGsS
import Derived.Test.YtaedacibojpfkaaDoorPdA
import Derived.Test.YtaedacibojpfkaaDoorPsSimple
namespace Go.Am.YtaedacibojpfkaaDoor
open Go Go.Am

theorem pickS_dr {c : List Int} (hc : Byt c) {K : Int} {z : List Int × Int × Int} (h : Dr c K z) (hK : K ≤ 1000000000000) {l : List ByteArray} (h1 : 1 ≤ l.length) (h2 : l.length ≤ 256) :
    ∃ y z', s_l00Src_pick (z.1, z.2.1, z.2.2) l = some (y, z') ∧ y ∈ l ∧ Dr c (K + 1) z' := by
  obtain ⟨r, z1, e1, r0, r1, h3⟩ := next_dr hc h hK (n := (l.length : Int)) (by omega) (by omega)
  obtain ⟨y, hy, hi⟩ := idx_get r0 r1
  refine ⟨y, z1, ?_, hy, h3⟩
  have e1' : s_l00Src_next (z.1, z.2.1, z.2.2) (l.length : Int) = some (r, z1) := e1
  unfold s_l00Src_pick
  show (if (l.length : Int) = 0 then _ else _ : Option _) = _
  rw [if_neg (by omega)]
  show (s_l00Src_next (z.1, z.2.1, z.2.2) (l.length : Int)).bind _ = _
  rw [e1', bind_some']
  show (idx l r).bind _ = _
  rw [hi]; rfl

def scost : Nat → Int
  | 0 => 2
  | m + 1 => 2 * scost m + 2
def snods : Nat → Nat
  | 0 => 1
  | m + 1 => 2 * snods m + 1
theorem scost_pos : ∀ m, 2 ≤ scost m
  | 0 => Int.le_refl _
  | m + 1 => by have := scost_pos m; simp only [scost]; omega
theorem snods_pos : ∀ m, 1 ≤ snods m
  | 0 => Nat.le_refl _
  | m + 1 => by have := snods_pos m; simp only [snods]; omega

/-- What a drawn simple type is. -/
structure Smp (m : Nat) (t : T) : Prop where
  ok : t.simok = true
  sz : t.size ≤ snods m

theorem sm_base {y : ByteArray} (hy : y ∈ [(⟨#[110, 97, 116]⟩ : ByteArray), ⟨#[111]⟩]) (m : Nat) : Smp m (T.mk 9 0 y []) := by
  have hn : nm y = true := by
    simp only [List.mem_cons, List.not_mem_nil, or_false] at hy
    rcases hy with rfl | rfl <;> decide
  refine ⟨?_, by have := snods_pos m; simp only [T.size, sizes]; omega⟩
  unfold T.simok
  rw [if_pos rfl, hn]; rfl
theorem sm_arr {m : Nat} {a b : T} (ha : Smp m a) (hb : Smp m b) : Smp (m + 1) (T.mk 10 0 ⟨#[]⟩ [a, b]) := by
  refine ⟨?_, by have h1 := ha.sz; have h2 := hb.sz; simp only [T.size, sizes, snods]; omega⟩
  unfold T.simok
  rw [if_neg (by decide), if_pos rfl]
  simp [simoks, ha.ok, hb.ok, eb]

theorem simple_dr {c : List Int} (hc : Byt c) : ∀ (m : Nat) {K : Int} {z : List Int × Int × Int}, m ≤ 20 → Dr c K z → 0 ≤ K → K + scost m ≤ 1000000000 →
    ∃ t z', (Ev fun n => s_l00Src_rawSimple n (z.1, z.2.1, z.2.2) (m : Int) = some (t, z')) ∧ Smp m t ∧ Dr c (K + scost m) z'
  | 0, K, z, _, h, h0, hK => by
    simp only [scost] at hK
    obtain ⟨y, z2, e2, hy, h2⟩ := pickS_dr hc h (by omega) (l := [(⟨#[110, 97, 116]⟩ : ByteArray), ⟨#[111]⟩]) (by decide) (by decide)
    refine ⟨T.mk 9 0 y [], z2, (Ev.of (p := fun _ => True) fun _ => trivial).up 0 fun n _ _ => ?_, sm_base hy 0, h2.mono (by simp only [scost]; omega)⟩
    rw [s_l00Src_rawSimple, if_neg (by decide)]
    show (s_l00Src_pick (z.1, z.2.1, z.2.2) _).bind _ = _
    rw [e2]; rfl
  | m + 1, K, z, hm, h, h0, hK => by
    have hp := scost_pos m
    simp only [scost] at hK
    obtain ⟨b, z1, e1, h1⟩ := chance_dr hc h (by omega) (n := 3) (by omega) (by omega)
    have e1' : s_l00Src_chance (z.1, z.2.1, z.2.2) 3 = some (b, z1) := e1
    have hw : IntKind.i64.wrap (((m + 1 : Nat) : Int) - 1) = (m : Int) := by rw [w64_eq (by omega) (by omega)]; omega
    cases b with
    | true =>
      obtain ⟨y, z2, e2, hy, h2⟩ := pickS_dr hc h1 (by omega) (l := [(⟨#[110, 97, 116]⟩ : ByteArray), ⟨#[111]⟩]) (by decide) (by decide)
      refine ⟨T.mk 9 0 y [], z2, (Ev.of (p := fun _ => True) fun _ => trivial).up 0 fun n _ _ => ?_, sm_base hy _, h2.mono (by simp only [scost]; omega)⟩
      rw [s_l00Src_rawSimple, if_pos (by omega)]
      show (s_l00Src_chance (z.1, z.2.1, z.2.2) 3).bind _ = _
      rw [e1', bind_some', if_neg (by simp)]
      show (s_l00Src_pick (z1.1, z1.2.1, z1.2.2) _).bind _ = _
      rw [e2]; rfl
    | false =>
      obtain ⟨a, z2, e2, ha, h2⟩ := simple_dr hc m (by omega) h1 (by omega) (by omega)
      obtain ⟨b, z3, e3, hb, h3⟩ := simple_dr hc m (by omega) h2 (by omega) (by omega)
      refine ⟨T.mk 10 0 ⟨#[]⟩ [a, b], z3, (e2.and e3).up 0 fun n _ ⟨q2, q3⟩ => ?_, sm_arr ha hb, h3.mono (by simp only [scost]; omega)⟩
      rw [s_l00Src_rawSimple, if_pos (by omega)]
      show (s_l00Src_chance (z.1, z.2.1, z.2.2) 3).bind _ = _
      rw [e1', bind_some', if_pos (by simp), hw]
      show (s_l00Src_rawSimple n (z1.1, z1.2.1, z1.2.2) (m : Int)).bind _ = _
      rw [q2, bind_some']
      show (s_l00Src_rawSimple n (z2.1, z2.2.1, z2.2.2) (m : Int)).bind _ = _
      rw [q3]; rfl

theorem simpleOf_dr {l : List Int} (hc : Byt l) : ∃ t, (Ev fun n => s_SimpleOf n l = some t) ∧ Smp 3 t := by
  obtain ⟨r, z1, e1, r0, r1, h1⟩ := next_dr hc Dr.start (by omega) (n := 3) (by omega) (by omega)
  have ht : scost (1 + r.toNat) ≤ 1000 ∧ snods (1 + r.toNat) ≤ snods 3 := by
    have : r.toNat = 0 ∨ r.toNat = 1 ∨ r.toNat = 2 := by omega
    rcases this with h | h | h <;> rw [h] <;> decide
  obtain ⟨t, z2, e2, hr, h2⟩ := simple_dr hc (1 + r.toNat) (by omega) h1 (by omega) (by omega)
  refine ⟨t, e2.mp fun n q => ?_, ⟨hr.ok, Nat.le_trans hr.sz ht.2⟩⟩
  have e1' : s_l00Src_next (l, 0, (Int.tmod ((l).length : Int) 1000)) 3 = some (r, z1) := e1
  unfold s_SimpleOf
  rw [e1', bind_some']
  show (s_l00Src_simple n (z1.1, z1.2.1, z1.2.2) (IntKind.i64.wrap (1 + r))).bind _ = _
  unfold s_l00Src_simple
  rw [w64_eq (by omega) (by omega), show (1 + r : Int) = ((1 + r.toNat : Nat) : Int) by omega]
  show ((s_l00Src_rawSimple n (z1.1, z1.2.1, z1.2.2) _).bind _ : Option _).bind _ = _
  rw [q]; rfl

end Go.Am.YtaedacibojpfkaaDoor
