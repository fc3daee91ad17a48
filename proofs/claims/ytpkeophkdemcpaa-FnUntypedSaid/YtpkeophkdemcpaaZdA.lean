/- Plain laws of draws: the source's bytes, numbers, chances. -/
import Derived.Test.YtpkeophkdemcpaaZsD
import Derived.Test.YtpkeophkdemcpaaPuA
namespace Go.Am.Ytpkeophkdemcpaa
open Go Go.Am

def Byt (c : List Int) : Prop := c.length ≤ 1048576 ∧ ∀ b ∈ c, 0 ≤ b ∧ b ≤ 255
structure Dr (c : List Int) (K : Int) (z : List Int × Int × Int) : Prop where
 code : z.1 = c
 at0 : 0 ≤ z.2.1
 atK : z.2.1 ≤ K
 s0 : 0 ≤ z.2.2
 s1 : z.2.2 < 2147483648

theorem Dr.mono {c : List Int} {K K' : Int} {z : List Int × Int × Int} (h : Dr c K z) (hk : K ≤ K') : Dr c K' z := ⟨h.code, h.at0, Int.le_trans h.atK hk, h.s0, h.s1⟩
theorem Dr.start {c : List Int} : Dr c 0 (c, 0, Int.tmod ((c).length : Int) 1000) := by
 have h : Int.tmod ((c).length : Int) 1000 = ((c).length : Int) % 1000 := Int.tmod_eq_emod_of_nonneg (by omega)
 refine ⟨rfl, Int.le_refl _, Int.le_refl _, ?_, ?_⟩
 ·show 0 ≤ Int.tmod ((c).length : Int) 1000
  rw [h]; omega
 show Int.tmod ((c).length : Int) 1000 < 2147483648
 rw [h]; omega

theorem idx_get {α : Type} {l : List α} {i : Int} (h0 : 0 ≤ i) (h1 : i < l.length) : ∃ y ∈ l, idx l i = some y := by
 have h : i.toNat < l.length := by omega
 refine ⟨l[i.toNat], List.getElem_mem h, ?_⟩
 unfold idx
 rw [if_pos h0, List.getElem?_eq_getElem h]

theorem tmod_lt {a b : Int} (h0 : 0 ≤ a) (hb : 0 < b) : 0 ≤ Int.tmod a b ∧ Int.tmod a b < b := by
 rw [Int.tmod_eq_emod_of_nonneg h0]
 exact ⟨Int.emod_nonneg _ (by omega), Int.emod_lt_of_pos _ hb⟩

theorem byte_dr {c : List Int} (hc : Byt c) {K : Int} {z : List Int × Int × Int} (h : Dr c K z) (hK : K ≤ 1000000000000) :
  ∃ r z', s_l00Src_byte z = some (r, z') ∧ 0 ≤ r ∧ r ≤ 255 ∧ Dr c (K + 1) z' := by
 obtain ⟨cd, at_, sd⟩ := z
 obtain ⟨rfl, h2, h3, h4, h5⟩ := h
 have e2 : (0 : Int) ≤ at_ := h2
 have e3 : at_ ≤ K := h3
 have e4 : (0 : Int) ≤ sd := h4
 have e5 : sd < 2147483648 := h5
 have hl : (cd.length : Int) ≤ 1048576 := by have : cd.length ≤ 1048576 := hc.1; omega
 unfold s_l00Src_byte
 show ∃ r z', (if (IntKind.i64.wrap (at_ + 1)) ≤ ((cd).length : Int) then _ else _) = some (r, z') ∧ _
 rw [w64_eq (by omega) (by omega)]
 by_cases hb : at_ + 1 ≤ (cd.length : Int)
 ·rw [if_pos hb]
  rw [w64_eq (x := at_ + 1 - 1) (by omega) (by omega)]
  obtain ⟨y, hy, hi⟩ := idx_get (l := cd) (i := at_ + 1 - 1) (by omega) (by omega)
  obtain ⟨y0, y1⟩ := hc.2 y hy
  simp only [hi, bind_some']
  have q := tmod_lt (a := IntKind.i64.wrap ((IntKind.i64.wrap ((IntKind.i64.wrap (sd * 31)) + (IntKind.i64.wrap y))) + 7)) (b := 2147483648) (by
   rw [w64_eq (x := y) (by omega) (by omega), w64_eq (x := sd * 31) (by omega) (by omega), w64_eq (x := sd * 31 + y) (by omega) (by omega), w64_eq (by omega) (by omega)]; omega) (by omega)
  refine ⟨_, _, rfl, ?_, ?_, rfl, ?_, ?_, q.1, q.2⟩
  ·rw [w64_eq (by omega) (by omega)]; exact y0
  ·rw [w64_eq (by omega) (by omega)]; exact y1
  ·show (0 : Int) ≤ at_ + 1; omega
  show at_ + 1 ≤ K + 1; omega
 rw [if_neg hb]
 by_cases h3000 : at_ + 1 > 3000
 ·rw [if_pos h3000]
  exact ⟨_, _, rfl, by omega, by omega, rfl, by show (0 : Int) ≤ at_ + 1; omega, by show at_ + 1 ≤ K + 1; omega, e4, e5⟩
 rw [if_neg h3000]
 have e : IntKind.i64.wrap (IntKind.i64.wrap (sd * 1103515245) + 12345) = sd * 1103515245 + 12345 := by
  rw [w64_eq (x := sd * 1103515245) (by omega) (by omega), w64_eq (by omega) (by omega)]
 have q := tmod_lt (a := sd * 1103515245 + 12345) (b := 2147483648) (by omega) (by omega)
 rw [← e] at q
 have q2 : 0 ≤ Int.tdiv (Int.tmod (IntKind.i64.wrap (IntKind.i64.wrap (sd * 1103515245) + 12345)) 2147483648) 65536 ∧ Int.tdiv (Int.tmod (IntKind.i64.wrap (IntKind.i64.wrap (sd * 1103515245) + 12345)) 2147483648) 65536 < 2147483648 := by
  rw [Int.tdiv_eq_ediv_of_nonneg q.1]
  have := q.1; have := q.2
  constructor <;> omega
 have q3 := tmod_lt (a := IntKind.i64.wrap (Int.tdiv (Int.tmod (IntKind.i64.wrap (IntKind.i64.wrap (sd * 1103515245) + 12345)) 2147483648) 65536)) (b := 256) (by rw [w64_eq (by omega) (by omega)]; exact q2.1) (by omega)
 refine ⟨_, _, rfl, q3.1, Int.le_of_lt_add_one q3.2, rfl, ?_, ?_, q.1, q.2⟩
 ·show (0 : Int) ≤ at_ + 1; omega
 show at_ + 1 ≤ K + 1; omega

theorem next_dr {c : List Int} (hc : Byt c) {K : Int} {z : List Int × Int × Int} (h : Dr c K z) (hK : K ≤ 1000000000000) {n : Int} (h1 : 1 ≤ n) (h2 : n ≤ 256) :
  ∃ r z', s_l00Src_next z n = some (r, z') ∧ 0 ≤ r ∧ r < n ∧ Dr c (K + 1) z' := by
 unfold s_l00Src_next
 by_cases hn : n ≤ 1
 ·rw [if_pos hn]
  exact ⟨0, _, rfl, by omega, by omega, h.mono (by omega)⟩
 rw [if_neg hn, if_pos h2]
 obtain ⟨r, z', e, r0, r1, hd⟩ := byte_dr hc h hK
 have e' : s_l00Src_byte (z.1, z.2.1, z.2.2) = some (r, z') := e
 rw [e', bind_some', chk_of (show n ≠ 0 by omega)]
 have q := tmod_lt r0 (show 0 < n by omega)
 exact ⟨_, _, rfl, q.1, q.2, hd⟩

theorem chance_dr {c : List Int} (hc : Byt c) {K : Int} {z : List Int × Int × Int} (h : Dr c K z) (hK : K ≤ 1000000000000) {n : Int} (h1 : 1 ≤ n) (h2 : n ≤ 256) :
  ∃ b z', s_l00Src_chance z n = some (b, z') ∧ Dr c (K + 1) z' := by
 unfold s_l00Src_chance
 obtain ⟨r, z', e, r0, r1, hd⟩ := next_dr hc h hK h1 h2
 have e' : s_l00Src_next (z.1, z.2.1, z.2.2) n = some (r, z') := e
 rw [e', bind_some']
 exact ⟨_, _, rfl, hd⟩

end Go.Am.Ytpkeophkdemcpaa
