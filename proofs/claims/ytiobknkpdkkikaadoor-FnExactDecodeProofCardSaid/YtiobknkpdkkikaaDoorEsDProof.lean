/- Plain laws: proofs read back from terms. -/
import Derived.Test.YtiobknkpdkkikaaDoorPuB
import Derived.Test.YtiobknkpdkkikaaDoorEsDForm
import Derived.Test.YtiobknkpdkkikaaDoorPsTerm
import Derived.Test.YtiobknkpdkkikaaDoorEkDProof
namespace Go.Am.YtiobknkpdkkikaaDoor
open Go Go.Am

theorem T_eta (t : T) : T.mk t.kind t.n t.name t.kids = t := by cases t; rfl
theorem kids_tmok {k n : Int} {s : ByteArray} {ks : List T} (h : (T.mk k n s ks).tmok = true) : tmoks ks = true ∧ (k = 4 → ks.length = 1) := by
  simp only [T.tmok] at h
  split at h
  · simp only [Bool.and_eq_true, decide_eq_true_eq] at h; exact ⟨h.2.2.2, fun _ => h.2.2.1⟩
  · rename_i h4
    split at h
    · simp only [Bool.and_eq_true, decide_eq_true_eq] at h; exact ⟨h.2.2.2, fun q => absurd q h4⟩
    · split at h
      · simp only [Bool.and_eq_true, decide_eq_true_eq] at h; exact ⟨h.2.2, fun q => absurd q h4⟩
      · cases h
def rbk {α : Type} (o : Option α) : Rz α := match o with | some f => .ok f | none => .stop 3 0
theorem zb_rbk {α β : Type} {a : Option α} {f : α → Option β} {k : α → Option (Rz β)} (h : ∀ v, a = some v → k v = some (rbk (f v))) : zb (some (rbk a)) k = some (rbk (a.bind f)) := by
  cases a with
  | none => rfl
  | some v => exact h v rfl
theorem sb_bk {α β : Type} {a : Option α} {x : Option (α × Bool)} {f : α → Option β} {k : α → Option (β × Bool)} {z : β} (hx : Bk a x) (h : ∀ v, a = some v → Bk (f v) (k v)) :
    Bk (a.bind f) (x.bind fun r => if (!r.2) = true then some (z, false) else k r.1) := by
  obtain ⟨r, rfl, hr⟩ := hx
  cases a with
  | none => exact ⟨z, rfl, fun _ h => by cases h⟩
  | some v => rw [hr v rfl]; exact h v rfl
/-- What the reference reads from a form, and what it does with it. -/
def formC (n : Nat) (x : T) (k : F → Option (Pf × Bool)) : Option (Pf × Bool) := (s_l08Back n x).bind fun r => if (!r.2) = true then some (Pf.mk 0 0 [] [], false) else k r.1
theorem formC_bk {n : Nat} {x : T} {k : F → Option (Pf × Bool)} {a : Option F} {f : F → Option Pf} (hx : Bk a (s_l08Back n x)) (h : ∀ v, a = some v → Bk (f v) (k v)) : Bk (a.bind f) (formC n x k) := sb_bk (k := k) hx h
/-- What the reference reads from a kid, and what it does with it. -/
def kidC (rec : T → Int → Option (Pf × Bool)) (c : Int) (p : T) (i : Int) (k : Pf → Option (Pf × Bool)) : Option (Pf × Bool) :=
  jn (fun (i96 i97 i98 : Int) (t99 : ByteArray) (l100 : List T) => (rec (T.mk i97 i98 t99 l100) i96).bind fun r => if (!r.2) = true then some (Pf.mk 0 0 [] [], false) else k r.1) fun j =>
  if c = 5 then (if (p.kind != 4) = true then some (Pf.mk 0 0 [] [], false) else (idx p.kids 0).bind fun y => j (IntKind.i64.wrap (i + 1)) y.kind y.n y.name y.kids) else j i p.kind p.n p.name p.kids
def sKid (rec : T → Int → Option (Pf × Bool)) (c : Int) (p : T) (i : Int) : Option (Pf × Bool) :=
  if c = 5 then (if (p.kind != 4) = true then some (Pf.mk 0 0 [] [], false) else (idx p.kids 0).bind fun y => rec y (IntKind.i64.wrap (i + 1))) else rec p i
theorem kidC_eq (rec : T → Int → Option (Pf × Bool)) (c : Int) (p : T) (i : Int) (k : Pf → Option (Pf × Bool)) : kidC rec c p i k = (sKid rec c p i).bind fun r => if (!r.2) = true then some (Pf.mk 0 0 [] [], false) else k r.1 := by
  unfold kidC sKid
  simp only [jn, T_eta]
  split
  · split
    · rfl
    · cases idx p.kids 0 <;> rfl
  · rfl
theorem kidC_bk {rec : T → Int → Option (Pf × Bool)} {c : Int} {p : T} {i : Int} {k : Pf → Option (Pf × Bool)} {a : Option Pf} {f : Pf → Option Pf} (hx : Bk a (sKid rec c p i)) (h : ∀ v, a = some v → Bk (f v) (k v)) :
    Bk (a.bind f) (kidC rec c p i k) := by
  rw [kidC_eq]; exact sb_bk hx h

def rnames : List ByteArray := [(⟨#[]⟩ : ByteArray), (⟨#[]⟩ : ByteArray), (⟨#[97, 110, 100, 73]⟩ : ByteArray), (⟨#[102, 115, 116]⟩ : ByteArray), (⟨#[115, 110, 100]⟩ : ByteArray), (⟨#[102, 117, 110, 73]⟩ : ByteArray), (⟨#[117, 115, 101]⟩ : ByteArray), (⟨#[98, 111, 116, 69]⟩ : ByteArray)]
theorem wd_7 (s : ByteArray) (m : Nat) : s_l06Word_L1 rnames s (m + 1) 7 = if ((⟨#[98, 111, 116, 69]⟩ : ByteArray).toList == s.toList) = true then some 7 else s_l06Word_L1 rnames s m 6 := by rw [s_l06Word_L1]; rfl
theorem wd_6 (s : ByteArray) (m : Nat) : s_l06Word_L1 rnames s (m + 1) 6 = if ((⟨#[117, 115, 101]⟩ : ByteArray).toList == s.toList) = true then some 6 else s_l06Word_L1 rnames s m 5 := by rw [s_l06Word_L1]; rfl
theorem wd_5 (s : ByteArray) (m : Nat) : s_l06Word_L1 rnames s (m + 1) 5 = if ((⟨#[102, 117, 110, 73]⟩ : ByteArray).toList == s.toList) = true then some 5 else s_l06Word_L1 rnames s m 4 := by rw [s_l06Word_L1]; rfl
theorem wd_4 (s : ByteArray) (m : Nat) : s_l06Word_L1 rnames s (m + 1) 4 = if ((⟨#[115, 110, 100]⟩ : ByteArray).toList == s.toList) = true then some 4 else s_l06Word_L1 rnames s m 3 := by rw [s_l06Word_L1]; rfl
theorem wd_3 (s : ByteArray) (m : Nat) : s_l06Word_L1 rnames s (m + 1) 3 = if ((⟨#[102, 115, 116]⟩ : ByteArray).toList == s.toList) = true then some 3 else s_l06Word_L1 rnames s m 2 := by rw [s_l06Word_L1]; rfl
theorem wd_2 (s : ByteArray) (m : Nat) : s_l06Word_L1 rnames s (m + 1) 2 = if ((⟨#[97, 110, 100, 73]⟩ : ByteArray).toList == s.toList) = true then some 2 else s_l06Word_L1 rnames s m 1 := by rw [s_l06Word_L1]; rfl
theorem wd_1 (s : ByteArray) (m : Nat) : s_l06Word_L1 rnames s (m + 1) 1 = if ((⟨#[]⟩ : ByteArray).toList == s.toList) = true then some 1 else s_l06Word_L1 rnames s m 0 := by rw [s_l06Word_L1]; rfl
theorem wd_0 (s : ByteArray) (m : Nat) : s_l06Word_L1 rnames s (m + 1) 0 = if ((⟨#[]⟩ : ByteArray).toList == s.toList) = true then some 0 else s_l06Word_L1 rnames s m (-1) := by rw [s_l06Word_L1]; rfl
theorem wd_m (s : ByteArray) (m : Nat) : s_l06Word_L1 rnames s (m + 1) (-1) = some (-1) := by rw [s_l06Word_L1]; rfl
theorem wd_all (s : ByteArray) (m : Nat) : s_l06Word m rnames s = s_l06Word_L1 rnames s m 7 := by unfold s_l06Word; rfl
theorem word_2 {s : ByteArray} (h : s.toList = (⟨#[97, 110, 100, 73]⟩ : ByteArray).toList) (m : Nat) : s_l06Word (m + 9) rnames s = some 2 := by rw [wd_all, wd_7, h, if_neg (show ¬ ((⟨#[98, 111, 116, 69]⟩ : ByteArray).toList == (⟨#[97, 110, 100, 73]⟩ : ByteArray).toList) = true by decide +kernel), wd_6, h, if_neg (show ¬ ((⟨#[117, 115, 101]⟩ : ByteArray).toList == (⟨#[97, 110, 100, 73]⟩ : ByteArray).toList) = true by decide +kernel), wd_5, h, if_neg (show ¬ ((⟨#[102, 117, 110, 73]⟩ : ByteArray).toList == (⟨#[97, 110, 100, 73]⟩ : ByteArray).toList) = true by decide +kernel), wd_4, h, if_neg (show ¬ ((⟨#[115, 110, 100]⟩ : ByteArray).toList == (⟨#[97, 110, 100, 73]⟩ : ByteArray).toList) = true by decide +kernel), wd_3, h, if_neg (show ¬ ((⟨#[102, 115, 116]⟩ : ByteArray).toList == (⟨#[97, 110, 100, 73]⟩ : ByteArray).toList) = true by decide +kernel), wd_2, h, if_pos (show ((⟨#[97, 110, 100, 73]⟩ : ByteArray).toList == (⟨#[97, 110, 100, 73]⟩ : ByteArray).toList) = true by decide +kernel)]
theorem word_3 {s : ByteArray} (h : s.toList = (⟨#[102, 115, 116]⟩ : ByteArray).toList) (m : Nat) : s_l06Word (m + 9) rnames s = some 3 := by rw [wd_all, wd_7, h, if_neg (show ¬ ((⟨#[98, 111, 116, 69]⟩ : ByteArray).toList == (⟨#[102, 115, 116]⟩ : ByteArray).toList) = true by decide +kernel), wd_6, h, if_neg (show ¬ ((⟨#[117, 115, 101]⟩ : ByteArray).toList == (⟨#[102, 115, 116]⟩ : ByteArray).toList) = true by decide +kernel), wd_5, h, if_neg (show ¬ ((⟨#[102, 117, 110, 73]⟩ : ByteArray).toList == (⟨#[102, 115, 116]⟩ : ByteArray).toList) = true by decide +kernel), wd_4, h, if_neg (show ¬ ((⟨#[115, 110, 100]⟩ : ByteArray).toList == (⟨#[102, 115, 116]⟩ : ByteArray).toList) = true by decide +kernel), wd_3, h, if_pos (show ((⟨#[102, 115, 116]⟩ : ByteArray).toList == (⟨#[102, 115, 116]⟩ : ByteArray).toList) = true by decide +kernel)]
theorem word_4 {s : ByteArray} (h : s.toList = (⟨#[115, 110, 100]⟩ : ByteArray).toList) (m : Nat) : s_l06Word (m + 9) rnames s = some 4 := by rw [wd_all, wd_7, h, if_neg (show ¬ ((⟨#[98, 111, 116, 69]⟩ : ByteArray).toList == (⟨#[115, 110, 100]⟩ : ByteArray).toList) = true by decide +kernel), wd_6, h, if_neg (show ¬ ((⟨#[117, 115, 101]⟩ : ByteArray).toList == (⟨#[115, 110, 100]⟩ : ByteArray).toList) = true by decide +kernel), wd_5, h, if_neg (show ¬ ((⟨#[102, 117, 110, 73]⟩ : ByteArray).toList == (⟨#[115, 110, 100]⟩ : ByteArray).toList) = true by decide +kernel), wd_4, h, if_pos (show ((⟨#[115, 110, 100]⟩ : ByteArray).toList == (⟨#[115, 110, 100]⟩ : ByteArray).toList) = true by decide +kernel)]
theorem word_5 {s : ByteArray} (h : s.toList = (⟨#[102, 117, 110, 73]⟩ : ByteArray).toList) (m : Nat) : s_l06Word (m + 9) rnames s = some 5 := by rw [wd_all, wd_7, h, if_neg (show ¬ ((⟨#[98, 111, 116, 69]⟩ : ByteArray).toList == (⟨#[102, 117, 110, 73]⟩ : ByteArray).toList) = true by decide +kernel), wd_6, h, if_neg (show ¬ ((⟨#[117, 115, 101]⟩ : ByteArray).toList == (⟨#[102, 117, 110, 73]⟩ : ByteArray).toList) = true by decide +kernel), wd_5, h, if_pos (show ((⟨#[102, 117, 110, 73]⟩ : ByteArray).toList == (⟨#[102, 117, 110, 73]⟩ : ByteArray).toList) = true by decide +kernel)]
theorem word_6 {s : ByteArray} (h : s.toList = (⟨#[117, 115, 101]⟩ : ByteArray).toList) (m : Nat) : s_l06Word (m + 9) rnames s = some 6 := by rw [wd_all, wd_7, h, if_neg (show ¬ ((⟨#[98, 111, 116, 69]⟩ : ByteArray).toList == (⟨#[117, 115, 101]⟩ : ByteArray).toList) = true by decide +kernel), wd_6, h, if_pos (show ((⟨#[117, 115, 101]⟩ : ByteArray).toList == (⟨#[117, 115, 101]⟩ : ByteArray).toList) = true by decide +kernel)]
theorem word_7 {s : ByteArray} (h : s.toList = (⟨#[98, 111, 116, 69]⟩ : ByteArray).toList) (m : Nat) : s_l06Word (m + 9) rnames s = some 7 := by rw [wd_all, wd_7, h, if_pos (show ((⟨#[98, 111, 116, 69]⟩ : ByteArray).toList == (⟨#[98, 111, 116, 69]⟩ : ByteArray).toList) = true by decide +kernel)]
theorem word_0 {s : ByteArray} (h2 : ¬ s.toList = (⟨#[97, 110, 100, 73]⟩ : ByteArray).toList) (h3 : ¬ s.toList = (⟨#[102, 115, 116]⟩ : ByteArray).toList) (h4 : ¬ s.toList = (⟨#[115, 110, 100]⟩ : ByteArray).toList) (h5 : ¬ s.toList = (⟨#[102, 117, 110, 73]⟩ : ByteArray).toList) (h6 : ¬ s.toList = (⟨#[117, 115, 101]⟩ : ByteArray).toList) (h7 : ¬ s.toList = (⟨#[98, 111, 116, 69]⟩ : ByteArray).toList) (m : Nat) : ∃ w, w < 2 ∧ s_l06Word (m + 9) rnames s = some w := by
  rw [wd_all, wd_7, if_neg (show ¬ ((⟨#[98, 111, 116, 69]⟩ : ByteArray).toList == s.toList) = true from fun q => h7 (beq_iff_eq.1 q).symm), wd_6, if_neg (show ¬ ((⟨#[117, 115, 101]⟩ : ByteArray).toList == s.toList) = true from fun q => h6 (beq_iff_eq.1 q).symm), wd_5, if_neg (show ¬ ((⟨#[102, 117, 110, 73]⟩ : ByteArray).toList == s.toList) = true from fun q => h5 (beq_iff_eq.1 q).symm), wd_4, if_neg (show ¬ ((⟨#[115, 110, 100]⟩ : ByteArray).toList == s.toList) = true from fun q => h4 (beq_iff_eq.1 q).symm), wd_3, if_neg (show ¬ ((⟨#[102, 115, 116]⟩ : ByteArray).toList == s.toList) = true from fun q => h3 (beq_iff_eq.1 q).symm), wd_2, if_neg (show ¬ ((⟨#[97, 110, 100, 73]⟩ : ByteArray).toList == s.toList) = true from fun q => h2 (beq_iff_eq.1 q).symm), wd_1]
  by_cases h1 : ((⟨#[]⟩ : ByteArray).toList == s.toList) = true
  · exact ⟨1, by decide, if_pos h1⟩
  · rw [if_neg h1, wd_0, if_neg h1, wd_m]; exact ⟨-1, by decide, rfl⟩
theorem word_some (s : ByteArray) (m : Nat) : ∃ w, s_l06Word (m + 9) rnames s = some w := by
  by_cases h2 : s.toList = (⟨#[97, 110, 100, 73]⟩ : ByteArray).toList
  · exact ⟨_, word_2 h2 m⟩
  by_cases h3 : s.toList = (⟨#[102, 115, 116]⟩ : ByteArray).toList
  · exact ⟨_, word_3 h3 m⟩
  by_cases h4 : s.toList = (⟨#[115, 110, 100]⟩ : ByteArray).toList
  · exact ⟨_, word_4 h4 m⟩
  by_cases h5 : s.toList = (⟨#[102, 117, 110, 73]⟩ : ByteArray).toList
  · exact ⟨_, word_5 h5 m⟩
  by_cases h6 : s.toList = (⟨#[117, 115, 101]⟩ : ByteArray).toList
  · exact ⟨_, word_6 h6 m⟩
  by_cases h7 : s.toList = (⟨#[98, 111, 116, 69]⟩ : ByteArray).toList
  · exact ⟨_, word_7 h7 m⟩
  obtain ⟨w, _, h⟩ := word_0 h2 h3 h4 h5 h6 h7 m
  exact ⟨w, h⟩

/-- What is read once the rule is known. -/
def ibody (rec_i_readKid : Int → T → Int → Option (Rz Pf)) (n : Nat) (x1 : T) (i2 i7 i10 : Int) : Option (Rz Pf) :=
       chk ((0 : Int) ≤ 0 ∧ 0 ≤ i10 ∧ i10 ≤ ((x1.kids).length : Int)) <|
       if 0 < (((lsub x1.kids 0 i10)).length : Int) then
        (idx (lsub x1.kids 0 i10) 0).bind fun y111 =>
        zb (i_readForm n y111) fun r116 =>
        chk ((([] : List F)).length + ([r116]).length ≤ 1099511627776) <|
        i_readProof_L2 rec_i_readKid n x1 i2 i7 i10 n (IntKind.i64.wrap (0 + 1)) (([] : List F) ++ [r116])
       else
        chk ((0 : Int) ≤ i10 ∧ i10 ≤ ((x1.kids).length : Int) ∧ ((x1.kids).length : Int) ≤ ((x1.kids).length : Int)) <|
        if 0 < (((lsub x1.kids i10 ((x1.kids).length : Int))).length : Int) then
         (idx (lsub x1.kids i10 ((x1.kids).length : Int)) 0).bind fun y168 =>
         zb (rec_i_readKid i7 y168 i2) fun r173 =>
         chk ((([] : List Pf)).length + ([r173]).length ≤ 1099511627776) <|
         i_readProof_L4 rec_i_readKid x1 i2 i7 i10 n (IntKind.i64.wrap (0 + 1)) (([] : List Pf) ++ [r173])
        else
         some (.ok (Pf.mk i7 0 [] []))
section
variable (rec : Int → T → Int → Option (Rz Pf)) (n : Nat) (x : T) (i : Int)
theorem il_2 (m : Nat) : i_readProof_L1 rec n x i (m + 1) 2 = if (x.kind != 6) = true then i_readProof_L1 rec n x i m 3 else if (!(x.name.toList == (⟨#[97, 110, 100, 73]⟩ : ByteArray).toList)) = true then i_readProof_L1 rec n x i m 3 else if (((x.kids).length : Int) != 4) = true then i_readProof_L1 rec n x i m 3 else ibody rec n x i 2 2 := by rw [i_readProof_L1]; rfl
theorem skip_2 (m : Nat) (h : ¬ (x.kind = 6 ∧ x.name.toList = (⟨#[97, 110, 100, 73]⟩ : ByteArray).toList ∧ ((x.kids).length : Int) = 4)) : i_readProof_L1 rec n x i (m + 1) 2 = i_readProof_L1 rec n x i m 3 := by
  rw [il_2]
  by_cases h1 : x.kind = 6
  · rw [if_neg (by simp [h1])]
    by_cases h2 : x.name.toList = (⟨#[97, 110, 100, 73]⟩ : ByteArray).toList
    · rw [if_neg (by rw [h2]; simp), if_pos (by simp only [bne_iff_ne]; exact fun h3 => h ⟨h1, h2, h3⟩)]
    · rw [if_pos (by simpa using h2)]
  · rw [if_pos (by simpa using h1)]
theorem hit_2 (m : Nat) (h : x.kind = 6 ∧ x.name.toList = (⟨#[97, 110, 100, 73]⟩ : ByteArray).toList ∧ ((x.kids).length : Int) = 4) : i_readProof_L1 rec n x i (m + 1) 2 = ibody rec n x i 2 2 := by
  rw [il_2, if_neg (by simp [h.1]), if_neg (by rw [h.2.1]; simp), if_neg (by rw [h.2.2]; simp)]
theorem il_3 (m : Nat) : i_readProof_L1 rec n x i (m + 1) 3 = if (x.kind != 6) = true then i_readProof_L1 rec n x i m 4 else if (!(x.name.toList == (⟨#[102, 115, 116]⟩ : ByteArray).toList)) = true then i_readProof_L1 rec n x i m 4 else if (((x.kids).length : Int) != 3) = true then i_readProof_L1 rec n x i m 4 else ibody rec n x i 3 2 := by rw [i_readProof_L1]; rfl
theorem skip_3 (m : Nat) (h : ¬ (x.kind = 6 ∧ x.name.toList = (⟨#[102, 115, 116]⟩ : ByteArray).toList ∧ ((x.kids).length : Int) = 3)) : i_readProof_L1 rec n x i (m + 1) 3 = i_readProof_L1 rec n x i m 4 := by
  rw [il_3]
  by_cases h1 : x.kind = 6
  · rw [if_neg (by simp [h1])]
    by_cases h2 : x.name.toList = (⟨#[102, 115, 116]⟩ : ByteArray).toList
    · rw [if_neg (by rw [h2]; simp), if_pos (by simp only [bne_iff_ne]; exact fun h3 => h ⟨h1, h2, h3⟩)]
    · rw [if_pos (by simpa using h2)]
  · rw [if_pos (by simpa using h1)]
theorem hit_3 (m : Nat) (h : x.kind = 6 ∧ x.name.toList = (⟨#[102, 115, 116]⟩ : ByteArray).toList ∧ ((x.kids).length : Int) = 3) : i_readProof_L1 rec n x i (m + 1) 3 = ibody rec n x i 3 2 := by
  rw [il_3, if_neg (by simp [h.1]), if_neg (by rw [h.2.1]; simp), if_neg (by rw [h.2.2]; simp)]
theorem il_4 (m : Nat) : i_readProof_L1 rec n x i (m + 1) 4 = if (x.kind != 6) = true then i_readProof_L1 rec n x i m 5 else if (!(x.name.toList == (⟨#[115, 110, 100]⟩ : ByteArray).toList)) = true then i_readProof_L1 rec n x i m 5 else if (((x.kids).length : Int) != 3) = true then i_readProof_L1 rec n x i m 5 else ibody rec n x i 4 2 := by rw [i_readProof_L1]; rfl
theorem skip_4 (m : Nat) (h : ¬ (x.kind = 6 ∧ x.name.toList = (⟨#[115, 110, 100]⟩ : ByteArray).toList ∧ ((x.kids).length : Int) = 3)) : i_readProof_L1 rec n x i (m + 1) 4 = i_readProof_L1 rec n x i m 5 := by
  rw [il_4]
  by_cases h1 : x.kind = 6
  · rw [if_neg (by simp [h1])]
    by_cases h2 : x.name.toList = (⟨#[115, 110, 100]⟩ : ByteArray).toList
    · rw [if_neg (by rw [h2]; simp), if_pos (by simp only [bne_iff_ne]; exact fun h3 => h ⟨h1, h2, h3⟩)]
    · rw [if_pos (by simpa using h2)]
  · rw [if_pos (by simpa using h1)]
theorem hit_4 (m : Nat) (h : x.kind = 6 ∧ x.name.toList = (⟨#[115, 110, 100]⟩ : ByteArray).toList ∧ ((x.kids).length : Int) = 3) : i_readProof_L1 rec n x i (m + 1) 4 = ibody rec n x i 4 2 := by
  rw [il_4, if_neg (by simp [h.1]), if_neg (by rw [h.2.1]; simp), if_neg (by rw [h.2.2]; simp)]
theorem il_5 (m : Nat) : i_readProof_L1 rec n x i (m + 1) 5 = if (x.kind != 6) = true then i_readProof_L1 rec n x i m 6 else if (!(x.name.toList == (⟨#[102, 117, 110, 73]⟩ : ByteArray).toList)) = true then i_readProof_L1 rec n x i m 6 else if (((x.kids).length : Int) != 3) = true then i_readProof_L1 rec n x i m 6 else ibody rec n x i 5 2 := by rw [i_readProof_L1]; rfl
theorem skip_5 (m : Nat) (h : ¬ (x.kind = 6 ∧ x.name.toList = (⟨#[102, 117, 110, 73]⟩ : ByteArray).toList ∧ ((x.kids).length : Int) = 3)) : i_readProof_L1 rec n x i (m + 1) 5 = i_readProof_L1 rec n x i m 6 := by
  rw [il_5]
  by_cases h1 : x.kind = 6
  · rw [if_neg (by simp [h1])]
    by_cases h2 : x.name.toList = (⟨#[102, 117, 110, 73]⟩ : ByteArray).toList
    · rw [if_neg (by rw [h2]; simp), if_pos (by simp only [bne_iff_ne]; exact fun h3 => h ⟨h1, h2, h3⟩)]
    · rw [if_pos (by simpa using h2)]
  · rw [if_pos (by simpa using h1)]
theorem hit_5 (m : Nat) (h : x.kind = 6 ∧ x.name.toList = (⟨#[102, 117, 110, 73]⟩ : ByteArray).toList ∧ ((x.kids).length : Int) = 3) : i_readProof_L1 rec n x i (m + 1) 5 = ibody rec n x i 5 2 := by
  rw [il_5, if_neg (by simp [h.1]), if_neg (by rw [h.2.1]; simp), if_neg (by rw [h.2.2]; simp)]
theorem il_6 (m : Nat) : i_readProof_L1 rec n x i (m + 1) 6 = if (x.kind != 6) = true then i_readProof_L1 rec n x i m 7 else if (!(x.name.toList == (⟨#[117, 115, 101]⟩ : ByteArray).toList)) = true then i_readProof_L1 rec n x i m 7 else if (((x.kids).length : Int) != 4) = true then i_readProof_L1 rec n x i m 7 else ibody rec n x i 6 2 := by rw [i_readProof_L1]; rfl
theorem skip_6 (m : Nat) (h : ¬ (x.kind = 6 ∧ x.name.toList = (⟨#[117, 115, 101]⟩ : ByteArray).toList ∧ ((x.kids).length : Int) = 4)) : i_readProof_L1 rec n x i (m + 1) 6 = i_readProof_L1 rec n x i m 7 := by
  rw [il_6]
  by_cases h1 : x.kind = 6
  · rw [if_neg (by simp [h1])]
    by_cases h2 : x.name.toList = (⟨#[117, 115, 101]⟩ : ByteArray).toList
    · rw [if_neg (by rw [h2]; simp), if_pos (by simp only [bne_iff_ne]; exact fun h3 => h ⟨h1, h2, h3⟩)]
    · rw [if_pos (by simpa using h2)]
  · rw [if_pos (by simpa using h1)]
theorem hit_6 (m : Nat) (h : x.kind = 6 ∧ x.name.toList = (⟨#[117, 115, 101]⟩ : ByteArray).toList ∧ ((x.kids).length : Int) = 4) : i_readProof_L1 rec n x i (m + 1) 6 = ibody rec n x i 6 2 := by
  rw [il_6, if_neg (by simp [h.1]), if_neg (by rw [h.2.1]; simp), if_neg (by rw [h.2.2]; simp)]
theorem il_7 (m : Nat) : i_readProof_L1 rec n x i (m + 1) 7 = if (x.kind != 6) = true then i_readProof_L1 rec n x i m 8 else if (!(x.name.toList == (⟨#[98, 111, 116, 69]⟩ : ByteArray).toList)) = true then i_readProof_L1 rec n x i m 8 else if (((x.kids).length : Int) != 2) = true then i_readProof_L1 rec n x i m 8 else ibody rec n x i 7 1 := by rw [i_readProof_L1]; rfl
theorem skip_7 (m : Nat) (h : ¬ (x.kind = 6 ∧ x.name.toList = (⟨#[98, 111, 116, 69]⟩ : ByteArray).toList ∧ ((x.kids).length : Int) = 2)) : i_readProof_L1 rec n x i (m + 1) 7 = i_readProof_L1 rec n x i m 8 := by
  rw [il_7]
  by_cases h1 : x.kind = 6
  · rw [if_neg (by simp [h1])]
    by_cases h2 : x.name.toList = (⟨#[98, 111, 116, 69]⟩ : ByteArray).toList
    · rw [if_neg (by rw [h2]; simp), if_pos (by simp only [bne_iff_ne]; exact fun h3 => h ⟨h1, h2, h3⟩)]
    · rw [if_pos (by simpa using h2)]
  · rw [if_pos (by simpa using h1)]
theorem hit_7 (m : Nat) (h : x.kind = 6 ∧ x.name.toList = (⟨#[98, 111, 116, 69]⟩ : ByteArray).toList ∧ ((x.kids).length : Int) = 2) : i_readProof_L1 rec n x i (m + 1) 7 = ibody rec n x i 7 1 := by
  rw [il_7, if_neg (by simp [h.1]), if_neg (by rw [h.2.1]; simp), if_neg (by rw [h.2.2]; simp)]
theorem il_8 (m : Nat) : i_readProof_L1 rec n x i (m + 1) 8 = some (.stop 3 0) := by rw [i_readProof_L1]; rfl
end
theorem ibody_22 (rec : Int → T → Int → Option (Rz Pf)) (m : Nat) (k n : Int) (s : ByteArray) (f0 f1 p0 p1 : T) (i c : Int) : ibody rec (m + 2) (T.mk k n s [f0, f1, p0, p1]) i c 2 = (zb (i_readForm (m + 2) f0) fun g0 => zb (i_readForm (m + 2) f1) fun g1 => zb (rec c p0 i) fun h0 => zb (rec c p1 i) fun h1 => some (.ok (Pf.mk c 0 [g0, g1] [h0, h1]))) := by rfl
theorem ibody_21 (rec : Int → T → Int → Option (Rz Pf)) (m : Nat) (k n : Int) (s : ByteArray) (f0 f1 p0 : T) (i c : Int) : ibody rec (m + 2) (T.mk k n s [f0, f1, p0]) i c 2 = (zb (i_readForm (m + 2) f0) fun g0 => zb (i_readForm (m + 2) f1) fun g1 => zb (rec c p0 i) fun h0 => some (.ok (Pf.mk c 0 [g0, g1] [h0]))) := by rfl
theorem ibody_11 (rec : Int → T → Int → Option (Rz Pf)) (m : Nat) (k n : Int) (s : ByteArray) (f0 p0 : T) (i c : Int) : ibody rec (m + 2) (T.mk k n s [f0, p0]) i c 1 = (zb (i_readForm (m + 2) f0) fun g0 => zb (rec c p0 i) fun h0 => some (.ok (Pf.mk c 0 [g0] [h0]))) := by rfl

/-- What the reference does once the rule is known. -/
def sbody (rec_s_l08Decode : T → Int → Option (Pf × Bool)) (n : Nat) (x1 : T) (i2 r5 : Int) (r14 : Int × Int) : Option (Pf × Bool) :=
      if 0 < r14.1 then
       (idx x1.kids 0).bind fun y127 =>
       (s_l08Back n y127).bind fun r132 =>
       if (!r132.2) = true then
        some ((Pf.mk 0 0 [] []), false)
       else
        chk ((([] : List F)).length + ([r132.1]).length ≤ 1099511627776) <|
        s_l08Decode_L1 rec_s_l08Decode n x1 i2 r5 r14 n (IntKind.i64.wrap (0 + 1)) (([] : List F) ++ [r132.1])
      else
       if r14.1 < (IntKind.i64.wrap (r14.1 + r14.2)) then
        (idx x1.kids r14.1).bind fun y186 =>
        jn (fun (i192 : Int) (i193 : Int) (i194 : Int) (t195 : ByteArray) (l196 : List T) =>
         (rec_s_l08Decode (T.mk i193 i194 t195 l196) i192).bind fun r204 =>
         if (!r204.2) = true then
          some ((Pf.mk 0 0 [] []), false)
         else
          chk ((([] : List Pf)).length + ([r204.1]).length ≤ 1099511627776) <|
          s_l08Decode_L3 rec_s_l08Decode x1 i2 r5 r14 n (IntKind.i64.wrap (r14.1 + 1)) (([] : List Pf) ++ [r204.1])) fun j191 =>
        if r5 = 5 then
         if (y186.kind != 4) = true then
          some ((Pf.mk 0 0 [] []), false)
         else
          (idx y186.kids 0).bind fun y199 =>
          j191 (IntKind.i64.wrap (i2 + 1)) y199.kind y199.n y199.name y199.kids
        else
         j191 i2 y186.kind y186.n y186.name y186.kids
       else
        some ((Pf.mk r5 0 [] []), true)
theorem sdec_eq (n : Nat) (k m : Int) (s : ByteArray) (ks : List T) (i : Int) : s_l08Decode (n + 1) (T.mk k m s ks) i = if k = 5 then (if ((ks.length : Nat) : Int) = 0 then some (Pf.mk 1 m [] [], decide (m < i)) else some (Pf.mk 1 m [] [], false))
    else (s_l06Word n rnames s).bind fun r5 => if (k != 6) = true then some (Pf.mk 0 0 [] [], false) else if r5 < 2 then some (Pf.mk 0 0 [] [], false) else (s_l08Shape r5).bind fun r14 => if (((ks.length : Nat) : Int) != (IntKind.i64.wrap (r14.1 + r14.2))) = true then some (Pf.mk 0 0 [] [], false) else sbody (s_l08Decode n) n (T.mk k m s ks) i r5 r14 := by
  rw [s_l08Decode]; rfl
theorem sbody_22 (rec : T → Int → Option (Pf × Bool)) (m : Nat) (k n : Int) (s : ByteArray) (f0 f1 p0 p1 : T) (i c : Int) : sbody rec (m + 2) (T.mk k n s [f0, f1, p0, p1]) i c (2, 2) = (formC (m + 2) f0 fun g0 => formC (m + 2) f1 fun g1 => kidC rec c p0 i fun h0 => kidC rec c p1 i fun h1 => some (Pf.mk c 0 [g0, g1] [h0, h1], true)) := by rfl
theorem sbody_21 (rec : T → Int → Option (Pf × Bool)) (m : Nat) (k n : Int) (s : ByteArray) (f0 f1 p0 : T) (i c : Int) : sbody rec (m + 2) (T.mk k n s [f0, f1, p0]) i c (2, 1) = (formC (m + 2) f0 fun g0 => formC (m + 2) f1 fun g1 => kidC rec c p0 i fun h0 => some (Pf.mk c 0 [g0, g1] [h0], true)) := by rfl
theorem sbody_11 (rec : T → Int → Option (Pf × Bool)) (m : Nat) (k n : Int) (s : ByteArray) (f0 p0 : T) (i c : Int) : sbody rec (m + 2) (T.mk k n s [f0, p0]) i c (1, 1) = (formC (m + 2) f0 fun g0 => kidC rec c p0 i fun h0 => some (Pf.mk c 0 [g0] [h0], true)) := by rfl

/-- A tree is read alike. -/
def Alike (t : T) (i : Int) : Prop := ∃ o : Option Pf, (∀ r, o = some r → r.size ≤ t.size ∧ r.sm) ∧ (Ev fun n => i_readProof n t i = some (rbk o)) ∧ Ev fun n => Bk o (s_l08Decode n t i)
theorem kid_ev {N : Nat} (IH : ∀ t : T, t.size ≤ N → t.tmok = true → ∀ i, Alike t i) (c : Int) (p : T) (hp : p.size ≤ N) (hok : p.tmok = true) (i : Int) :
    ∃ o : Option Pf, (∀ r, o = some r → r.size ≤ p.size ∧ r.sm) ∧ (Ev fun n => i_readKid n c p i = some (rbk o)) ∧ Ev fun n => Bk o (sKid (s_l08Decode n) c p i) := by
  by_cases c5 : c = 5
  · subst c5
    obtain ⟨k, n, s, ks⟩ := p
    by_cases k4 : k = 4
    · subst k4
      obtain ⟨hkk, hone⟩ := kids_tmok hok
      have hlen := hone rfl
      match ks, hlen, hkk, hp with
      | [q], _, hkk, hp =>
        simp only [tmoks, Bool.and_eq_true] at hkk
        have hq : (T.mk 4 n s [q]).size = 1 + q.size := by simp only [T.size, sizes]; omega
        rw [hq] at hp
        obtain ⟨o, so, e1, e2⟩ := IH q (by omega) hkk.1 (IntKind.i64.wrap (i + 1))
        refine ⟨o, fun r h => ⟨by have := (so r h).1; omega, (so r h).2⟩, e1.up 0 fun m _ h => ?_, e2.mp fun m h => ?_⟩
        · rw [i_readKid, if_neg (show ¬ ((5 : Int) != 5) = true by decide), tkind, if_neg (show ¬ ((4 : Int) != 4) = true by decide)]
          show zb (i_readProof m q (IntKind.i64.wrap (i + 1))) (fun r20 => some (.ok r20)) = _
          rw [h]; cases o <;> rfl
        · exact h
    · have k4' : (k != 4) = true := by simpa using k4
      refine ⟨none, (fun r h => by cases h), (Ev.of (p := fun _ => True) fun _ => trivial).up 0 fun m _ _ => ?_, Ev.of fun m => ?_⟩
      · rw [i_readKid, if_neg (by decide), tkind, if_pos k4']; rfl
      · unfold sKid
        rw [if_pos rfl, tkind, if_pos k4']
        exact ⟨_, rfl, fun f h => by cases h⟩
  · obtain ⟨o, so, e1, e2⟩ := IH p hp hok i
    refine ⟨o, so, e1.up 0 fun m _ h => ?_, e2.mp fun m h => ?_⟩
    · rw [i_readKid, if_pos (by simpa using c5), h]; cases o <;> rfl
    · unfold sKid
      rw [if_neg c5]; exact h
theorem pf_sm {c n : Int} {fs : List F} {ps : List Pf} (h1 : fs.length ≤ 4) (h2 : ∀ f ∈ fs, f.sm) (h3 : ps.length ≤ 4) (h4 : ∀ p ∈ ps, p.sm) : (Pf.mk c n fs ps).sm := by
  unfold Pf.sm; exact ⟨⟨by omega, h2⟩, by omega, h4⟩
theorem bind_inv {α β : Type} {o : Option α} {f : α → Option β} {r : β} (h : o.bind f = some r) : ∃ v, o = some v ∧ f v = some r := Option.bind_eq_some_iff.1 h

theorem read_22 {N : Nat} (IH : ∀ t : T, t.size ≤ N → t.tmok = true → ∀ i, Alike t i) (c : Int) (f0 f1 p0 p1 : T) (hN : sizes [f0, f1, p0, p1] ≤ N) (hok : tmoks [f0, f1, p0, p1] = true) (i : Int) (k n : Int) (s : ByteArray) :
    ∃ o : Option Pf, (∀ r, o = some r → r.size ≤ 1 + sizes [f0, f1, p0, p1] ∧ r.sm) ∧ (Ev fun m => ibody (i_readKid m) m (T.mk k n s [f0, f1, p0, p1]) i c 2 = some (rbk o)) ∧ Ev fun m => Bk o (sbody (s_l08Decode m) m (T.mk k n s [f0, f1, p0, p1]) i c (2, 2)) := by
  simp only [tmoks, Bool.and_eq_true] at hok
  simp only [sizes] at hN ⊢
  obtain ⟨kf0, kf1, kp0, kp1, _⟩ := hok
  obtain ⟨o0, so0, a0, b0⟩ := kid_ev IH c p0 (by omega) kp0 i
  obtain ⟨o1, so1, a1, b1⟩ := kid_ev IH c p1 (by omega) kp1 i
  refine ⟨(f0.fmd).bind fun g0 => (f1.fmd).bind fun g1 => (o0).bind fun h0 => (o1).bind fun h1 => some (Pf.mk c 0 [g0, g1] [h0, h1]), fun r hr => ?_, ?_, ?_⟩
  · obtain ⟨g0, hg0, hr⟩ := bind_inv hr
    obtain ⟨g1, hg1, hr⟩ := bind_inv hr
    obtain ⟨h0, hh0, hr⟩ := bind_inv hr
    obtain ⟨h1, hh1, hr⟩ := bind_inv hr
    cases hr
    have zg0 := fmd_size f0 g0 hg0
    have zg1 := fmd_size f1 g1 hg1
    have zh0 := so0 h0 hh0
    have zh1 := so1 h1 hh1
    refine ⟨by simp only [Pf.size, fsizes, psizes]; omega, pf_sm (by simp) (fun f hf => ?_) (by simp) fun p hp => ?_⟩
    · rcases List.mem_cons.1 hf with rfl | hf
      · exact zg0.2
      · rw [List.mem_singleton.1 hf]; exact zg1.2
    · rcases List.mem_cons.1 hp with rfl | hp
      · exact zh0.2
      · rw [List.mem_singleton.1 hp]; exact zh1.2
  · refine ((fback_ev f0).and ((fback_ev f1).and ((a0).and (a1)))).at 2 fun m hm H => ?_
    obtain ⟨m, rfl⟩ : ∃ k, m = k + 2 := ⟨m - 2, by omega⟩
    obtain ⟨⟨qf0, _⟩, ⟨qf1, _⟩, qp0, qp1⟩ := H
    have qf0 : i_readForm (m + 2) f0 = some (rbk f0.fmd) := by rw [qf0]; cases f0.fmd <;> rfl
    have qf1 : i_readForm (m + 2) f1 = some (rbk f1.fmd) := by rw [qf1]; cases f1.fmd <;> rfl
    rw [ibody_22, qf0]
    refine zb_rbk fun v0 _ => ?_
    rw [qf1]
    refine zb_rbk fun v1 _ => ?_
    rw [qp0]
    refine zb_rbk fun v2 _ => ?_
    rw [qp1]
    refine zb_rbk fun v3 _ => ?_
    rfl
  · refine ((fback_ev f0).and ((fback_ev f1).and ((b0).and (b1)))).at 2 fun m hm H => ?_
    obtain ⟨m, rfl⟩ : ∃ k, m = k + 2 := ⟨m - 2, by omega⟩
    obtain ⟨⟨_, qf0⟩, ⟨_, qf1⟩, qp0, qp1⟩ := H
    rw [sbody_22]
    refine formC_bk qf0 fun v0 _ => ?_
    refine formC_bk qf1 fun v1 _ => ?_
    refine kidC_bk qp0 fun v2 _ => ?_
    refine kidC_bk qp1 fun v3 _ => ?_
    exact ⟨_, rfl, fun f h => by cases h; rfl⟩
theorem read_21 {N : Nat} (IH : ∀ t : T, t.size ≤ N → t.tmok = true → ∀ i, Alike t i) (c : Int) (f0 f1 p0 : T) (hN : sizes [f0, f1, p0] ≤ N) (hok : tmoks [f0, f1, p0] = true) (i : Int) (k n : Int) (s : ByteArray) :
    ∃ o : Option Pf, (∀ r, o = some r → r.size ≤ 1 + sizes [f0, f1, p0] ∧ r.sm) ∧ (Ev fun m => ibody (i_readKid m) m (T.mk k n s [f0, f1, p0]) i c 2 = some (rbk o)) ∧ Ev fun m => Bk o (sbody (s_l08Decode m) m (T.mk k n s [f0, f1, p0]) i c (2, 1)) := by
  simp only [tmoks, Bool.and_eq_true] at hok
  simp only [sizes] at hN ⊢
  obtain ⟨kf0, kf1, kp0, _⟩ := hok
  obtain ⟨o0, so0, a0, b0⟩ := kid_ev IH c p0 (by omega) kp0 i
  refine ⟨(f0.fmd).bind fun g0 => (f1.fmd).bind fun g1 => (o0).bind fun h0 => some (Pf.mk c 0 [g0, g1] [h0]), fun r hr => ?_, ?_, ?_⟩
  · obtain ⟨g0, hg0, hr⟩ := bind_inv hr
    obtain ⟨g1, hg1, hr⟩ := bind_inv hr
    obtain ⟨h0, hh0, hr⟩ := bind_inv hr
    cases hr
    have zg0 := fmd_size f0 g0 hg0
    have zg1 := fmd_size f1 g1 hg1
    have zh0 := so0 h0 hh0
    refine ⟨by simp only [Pf.size, fsizes, psizes]; omega, pf_sm (by simp) (fun f hf => ?_) (by simp) fun p hp => ?_⟩
    · rcases List.mem_cons.1 hf with rfl | hf
      · exact zg0.2
      · rw [List.mem_singleton.1 hf]; exact zg1.2
    · rw [List.mem_singleton.1 hp]; exact zh0.2
  · refine ((fback_ev f0).and ((fback_ev f1).and (a0))).at 2 fun m hm H => ?_
    obtain ⟨m, rfl⟩ : ∃ k, m = k + 2 := ⟨m - 2, by omega⟩
    obtain ⟨⟨qf0, _⟩, ⟨qf1, _⟩, qp0⟩ := H
    have qf0 : i_readForm (m + 2) f0 = some (rbk f0.fmd) := by rw [qf0]; cases f0.fmd <;> rfl
    have qf1 : i_readForm (m + 2) f1 = some (rbk f1.fmd) := by rw [qf1]; cases f1.fmd <;> rfl
    rw [ibody_21, qf0]
    refine zb_rbk fun v0 _ => ?_
    rw [qf1]
    refine zb_rbk fun v1 _ => ?_
    rw [qp0]
    refine zb_rbk fun v2 _ => ?_
    rfl
  · refine ((fback_ev f0).and ((fback_ev f1).and (b0))).at 2 fun m hm H => ?_
    obtain ⟨m, rfl⟩ : ∃ k, m = k + 2 := ⟨m - 2, by omega⟩
    obtain ⟨⟨_, qf0⟩, ⟨_, qf1⟩, qp0⟩ := H
    rw [sbody_21]
    refine formC_bk qf0 fun v0 _ => ?_
    refine formC_bk qf1 fun v1 _ => ?_
    refine kidC_bk qp0 fun v2 _ => ?_
    exact ⟨_, rfl, fun f h => by cases h; rfl⟩
theorem read_11 {N : Nat} (IH : ∀ t : T, t.size ≤ N → t.tmok = true → ∀ i, Alike t i) (c : Int) (f0 p0 : T) (hN : sizes [f0, p0] ≤ N) (hok : tmoks [f0, p0] = true) (i : Int) (k n : Int) (s : ByteArray) :
    ∃ o : Option Pf, (∀ r, o = some r → r.size ≤ 1 + sizes [f0, p0] ∧ r.sm) ∧ (Ev fun m => ibody (i_readKid m) m (T.mk k n s [f0, p0]) i c 1 = some (rbk o)) ∧ Ev fun m => Bk o (sbody (s_l08Decode m) m (T.mk k n s [f0, p0]) i c (1, 1)) := by
  simp only [tmoks, Bool.and_eq_true] at hok
  simp only [sizes] at hN ⊢
  obtain ⟨kf0, kp0, _⟩ := hok
  obtain ⟨o0, so0, a0, b0⟩ := kid_ev IH c p0 (by omega) kp0 i
  refine ⟨(f0.fmd).bind fun g0 => (o0).bind fun h0 => some (Pf.mk c 0 [g0] [h0]), fun r hr => ?_, ?_, ?_⟩
  · obtain ⟨g0, hg0, hr⟩ := bind_inv hr
    obtain ⟨h0, hh0, hr⟩ := bind_inv hr
    cases hr
    have zg0 := fmd_size f0 g0 hg0
    have zh0 := so0 h0 hh0
    refine ⟨by simp only [Pf.size, fsizes, psizes]; omega, pf_sm (by simp) (fun f hf => ?_) (by simp) fun p hp => ?_⟩
    · rw [List.mem_singleton.1 hf]; exact zg0.2
    · rw [List.mem_singleton.1 hp]; exact zh0.2
  · refine ((fback_ev f0).and (a0)).at 2 fun m hm H => ?_
    obtain ⟨m, rfl⟩ : ∃ k, m = k + 2 := ⟨m - 2, by omega⟩
    obtain ⟨⟨qf0, _⟩, qp0⟩ := H
    have qf0 : i_readForm (m + 2) f0 = some (rbk f0.fmd) := by rw [qf0]; cases f0.fmd <;> rfl
    rw [ibody_11, qf0]
    refine zb_rbk fun v0 _ => ?_
    rw [qp0]
    refine zb_rbk fun v1 _ => ?_
    rfl
  · refine ((fback_ev f0).and (b0)).at 2 fun m hm H => ?_
    obtain ⟨m, rfl⟩ : ∃ k, m = k + 2 := ⟨m - 2, by omega⟩
    obtain ⟨⟨_, qf0⟩, qp0⟩ := H
    rw [sbody_11]
    refine formC_bk qf0 fun v0 _ => ?_
    refine kidC_bk qp0 fun v1 _ => ?_
    exact ⟨_, rfl, fun f h => by cases h; rfl⟩

theorem dproof_ev : ∀ (N : Nat) (t : T), t.size ≤ N → t.tmok = true → ∀ i, Alike t i
  | 0, t, hN, _, _ => by have := size_pos t; omega
  | N + 1, .mk k n s ks, hN, hok, i => by
    have hsz : (T.mk k n s ks).size = 1 + sizes ks := by simp only [T.size]
    rw [hsz] at hN
    have hks := (kids_tmok hok).1
    have IH := dproof_ev N
    have ei : ∀ m, i_readProof (m + 1) (T.mk k n s ks) i = if k = 5 then (if ((ks.length : Nat) : Int) = 0 then (if n < i then some (.ok (Pf.mk 1 n [] [])) else i_readProof_L1 (i_readKid m) m (T.mk k n s ks) i m 2) else i_readProof_L1 (i_readKid m) m (T.mk k n s ks) i m 2) else i_readProof_L1 (i_readKid m) m (T.mk k n s ks) i m 2 := fun m => by rw [i_readProof]; rfl
    have none_ok : ∀ r : Pf, (none : Option Pf) = some r → r.size ≤ (T.mk k n s ks).size ∧ r.sm := fun r h => by cases h
    have stop : ¬ (k = 6 ∧ s.toList = (⟨#[97, 110, 100, 73]⟩ : ByteArray).toList ∧ ((ks.length : Nat) : Int) = 4) → ¬ (k = 6 ∧ s.toList = (⟨#[102, 115, 116]⟩ : ByteArray).toList ∧ ((ks.length : Nat) : Int) = 3) → ¬ (k = 6 ∧ s.toList = (⟨#[115, 110, 100]⟩ : ByteArray).toList ∧ ((ks.length : Nat) : Int) = 3) → ¬ (k = 6 ∧ s.toList = (⟨#[102, 117, 110, 73]⟩ : ByteArray).toList ∧ ((ks.length : Nat) : Int) = 3) → ¬ (k = 6 ∧ s.toList = (⟨#[117, 115, 101]⟩ : ByteArray).toList ∧ ((ks.length : Nat) : Int) = 4) → ¬ (k = 6 ∧ s.toList = (⟨#[98, 111, 116, 69]⟩ : ByteArray).toList ∧ ((ks.length : Nat) : Int) = 2) → ∀ m, 9 ≤ m → i_readProof_L1 (i_readKid m) m (T.mk k n s ks) i m 2 = some (.stop 3 0) := fun h2 h3 h4 h5 h6 h7 => fun m hm => by
      obtain ⟨m, rfl⟩ : ∃ k, m = k + 9 := ⟨m - 9, by omega⟩
      rw [skip_2 _ _ (T.mk k n s ks) _ _ h2, skip_3 _ _ (T.mk k n s ks) _ _ h3, skip_4 _ _ (T.mk k n s ks) _ _ h4, skip_5 _ _ (T.mk k n s ks) _ _ h5, skip_6 _ _ (T.mk k n s ks) _ _ h6, skip_7 _ _ (T.mk k n s ks) _ _ h7, il_8]
    by_cases k5 : k = 5
    · have hst : ∀ m, 9 ≤ m → i_readProof_L1 (i_readKid m) m (T.mk k n s ks) i m 2 = some (.stop 3 0) := stop (fun h => by omega) (fun h => by omega) (fun h => by omega) (fun h => by omega) (fun h => by omega) (fun h => by omega)
      by_cases h0 : ks.length = 0
      · by_cases hi : n < i
        · refine ⟨some (Pf.mk 1 n [] []), fun r h => ?_, (Ev.of (p := fun _ => True) fun _ => trivial).up 9 fun m hm _ => ?_, (Ev.of (p := fun _ => True) fun _ => trivial).up 9 fun m hm _ => ?_⟩
          · cases h
            exact ⟨by simp only [Pf.size, fsizes, psizes]; omega, pf_sm (fs := []) (ps := []) (by simp) (fun t ht => by cases ht) (by simp) fun t ht => by cases ht⟩
          · rw [ei, if_pos k5, if_pos (by omega), if_pos hi]; rfl
          · rw [sdec_eq, if_pos k5, if_pos (by omega), decide_eq_true hi]
            exact ⟨_, rfl, fun f h => by cases h; rfl⟩
        · refine ⟨none, none_ok, (Ev.of (p := fun _ => True) fun _ => trivial).up 9 fun m hm _ => ?_, (Ev.of (p := fun _ => True) fun _ => trivial).up 9 fun m hm _ => ?_⟩
          · rw [ei, if_pos k5, if_pos (by omega), if_neg hi, hst m hm]; rfl
          · rw [sdec_eq, if_pos k5, if_pos (by omega), decide_eq_false hi]
            exact ⟨_, rfl, fun f h => by cases h⟩
      · refine ⟨none, none_ok, (Ev.of (p := fun _ => True) fun _ => trivial).up 9 fun m hm _ => ?_, (Ev.of (p := fun _ => True) fun _ => trivial).up 9 fun m hm _ => ?_⟩
        · rw [ei, if_pos k5, if_neg (by omega), hst m hm]; rfl
        · rw [sdec_eq, if_pos k5, if_neg (by omega)]
          exact ⟨_, rfl, fun f h => by cases h⟩
    · by_cases k6 : k = 6
      · have k6' : ¬ (k != 6) = true := by simp [k6]
        by_cases h2 : (k = 6 ∧ s.toList = (⟨#[97, 110, 100, 73]⟩ : ByteArray).toList ∧ ((ks.length : Nat) : Int) = 4)
        · have hl : ks.length = 4 := by omega
          match ks, hl, h2, hN, hks, hsz, ei with
          | [f0, f1, p0, p1], _, h2, hN, hks, hsz, ei =>
            obtain ⟨o, so, e1, e2⟩ := read_22 IH 2 f0 f1 p0 p1 (by omega) hks i k n s
            refine ⟨o, fun r h => by rw [hsz]; exact so r h, e1.up 9 fun m hm h => ?_, e2.up 9 fun m hm h => ?_⟩
            · obtain ⟨m, rfl⟩ : ∃ k, m = k + 9 := ⟨m - 9, by omega⟩
              rw [ei, if_neg k5, hit_2 _ _ (T.mk k n s [f0, f1, p0, p1]) _ _ h2]; exact h
            · obtain ⟨m, rfl⟩ : ∃ k, m = k + 9 := ⟨m - 9, by omega⟩
              rw [sdec_eq, if_neg k5, word_2 h2.2.1, bind_some', if_neg k6', if_neg (by decide)]; exact h
        · have u2 := h2
          by_cases h3 : (k = 6 ∧ s.toList = (⟨#[102, 115, 116]⟩ : ByteArray).toList ∧ ((ks.length : Nat) : Int) = 3)
          · have hl : ks.length = 3 := by omega
            match ks, hl, h3, hN, hks, hsz, ei, h2 with
            | [f0, f1, p0], _, h3, hN, hks, hsz, ei, h2 =>
              obtain ⟨o, so, e1, e2⟩ := read_21 IH 3 f0 f1 p0 (by omega) hks i k n s
              refine ⟨o, fun r h => by rw [hsz]; exact so r h, e1.up 9 fun m hm h => ?_, e2.up 9 fun m hm h => ?_⟩
              · obtain ⟨m, rfl⟩ : ∃ k, m = k + 9 := ⟨m - 9, by omega⟩
                rw [ei, if_neg k5, skip_2 _ _ (T.mk k n s [f0, f1, p0]) _ _ h2, hit_3 _ _ (T.mk k n s [f0, f1, p0]) _ _ h3]; exact h
              · obtain ⟨m, rfl⟩ : ∃ k, m = k + 9 := ⟨m - 9, by omega⟩
                rw [sdec_eq, if_neg k5, word_3 h3.2.1, bind_some', if_neg k6', if_neg (by decide)]; exact h
          · have u3 := h3
            by_cases h4 : (k = 6 ∧ s.toList = (⟨#[115, 110, 100]⟩ : ByteArray).toList ∧ ((ks.length : Nat) : Int) = 3)
            · have hl : ks.length = 3 := by omega
              match ks, hl, h4, hN, hks, hsz, ei, h2, h3 with
              | [f0, f1, p0], _, h4, hN, hks, hsz, ei, h2, h3 =>
                obtain ⟨o, so, e1, e2⟩ := read_21 IH 4 f0 f1 p0 (by omega) hks i k n s
                refine ⟨o, fun r h => by rw [hsz]; exact so r h, e1.up 9 fun m hm h => ?_, e2.up 9 fun m hm h => ?_⟩
                · obtain ⟨m, rfl⟩ : ∃ k, m = k + 9 := ⟨m - 9, by omega⟩
                  rw [ei, if_neg k5, skip_2 _ _ (T.mk k n s [f0, f1, p0]) _ _ h2, skip_3 _ _ (T.mk k n s [f0, f1, p0]) _ _ h3, hit_4 _ _ (T.mk k n s [f0, f1, p0]) _ _ h4]; exact h
                · obtain ⟨m, rfl⟩ : ∃ k, m = k + 9 := ⟨m - 9, by omega⟩
                  rw [sdec_eq, if_neg k5, word_4 h4.2.1, bind_some', if_neg k6', if_neg (by decide)]; exact h
            · have u4 := h4
              by_cases h5 : (k = 6 ∧ s.toList = (⟨#[102, 117, 110, 73]⟩ : ByteArray).toList ∧ ((ks.length : Nat) : Int) = 3)
              · have hl : ks.length = 3 := by omega
                match ks, hl, h5, hN, hks, hsz, ei, h2, h3, h4 with
                | [f0, f1, p0], _, h5, hN, hks, hsz, ei, h2, h3, h4 =>
                  obtain ⟨o, so, e1, e2⟩ := read_21 IH 5 f0 f1 p0 (by omega) hks i k n s
                  refine ⟨o, fun r h => by rw [hsz]; exact so r h, e1.up 9 fun m hm h => ?_, e2.up 9 fun m hm h => ?_⟩
                  · obtain ⟨m, rfl⟩ : ∃ k, m = k + 9 := ⟨m - 9, by omega⟩
                    rw [ei, if_neg k5, skip_2 _ _ (T.mk k n s [f0, f1, p0]) _ _ h2, skip_3 _ _ (T.mk k n s [f0, f1, p0]) _ _ h3, skip_4 _ _ (T.mk k n s [f0, f1, p0]) _ _ h4, hit_5 _ _ (T.mk k n s [f0, f1, p0]) _ _ h5]; exact h
                  · obtain ⟨m, rfl⟩ : ∃ k, m = k + 9 := ⟨m - 9, by omega⟩
                    rw [sdec_eq, if_neg k5, word_5 h5.2.1, bind_some', if_neg k6', if_neg (by decide)]; exact h
              · have u5 := h5
                by_cases h6 : (k = 6 ∧ s.toList = (⟨#[117, 115, 101]⟩ : ByteArray).toList ∧ ((ks.length : Nat) : Int) = 4)
                · have hl : ks.length = 4 := by omega
                  match ks, hl, h6, hN, hks, hsz, ei, h2, h3, h4, h5 with
                  | [f0, f1, p0, p1], _, h6, hN, hks, hsz, ei, h2, h3, h4, h5 =>
                    obtain ⟨o, so, e1, e2⟩ := read_22 IH 6 f0 f1 p0 p1 (by omega) hks i k n s
                    refine ⟨o, fun r h => by rw [hsz]; exact so r h, e1.up 9 fun m hm h => ?_, e2.up 9 fun m hm h => ?_⟩
                    · obtain ⟨m, rfl⟩ : ∃ k, m = k + 9 := ⟨m - 9, by omega⟩
                      rw [ei, if_neg k5, skip_2 _ _ (T.mk k n s [f0, f1, p0, p1]) _ _ h2, skip_3 _ _ (T.mk k n s [f0, f1, p0, p1]) _ _ h3, skip_4 _ _ (T.mk k n s [f0, f1, p0, p1]) _ _ h4, skip_5 _ _ (T.mk k n s [f0, f1, p0, p1]) _ _ h5, hit_6 _ _ (T.mk k n s [f0, f1, p0, p1]) _ _ h6]; exact h
                    · obtain ⟨m, rfl⟩ : ∃ k, m = k + 9 := ⟨m - 9, by omega⟩
                      rw [sdec_eq, if_neg k5, word_6 h6.2.1, bind_some', if_neg k6', if_neg (by decide)]; exact h
                · have u6 := h6
                  by_cases h7 : (k = 6 ∧ s.toList = (⟨#[98, 111, 116, 69]⟩ : ByteArray).toList ∧ ((ks.length : Nat) : Int) = 2)
                  · have hl : ks.length = 2 := by omega
                    match ks, hl, h7, hN, hks, hsz, ei, h2, h3, h4, h5, h6 with
                    | [f0, p0], _, h7, hN, hks, hsz, ei, h2, h3, h4, h5, h6 =>
                      obtain ⟨o, so, e1, e2⟩ := read_11 IH 7 f0 p0 (by omega) hks i k n s
                      refine ⟨o, fun r h => by rw [hsz]; exact so r h, e1.up 9 fun m hm h => ?_, e2.up 9 fun m hm h => ?_⟩
                      · obtain ⟨m, rfl⟩ : ∃ k, m = k + 9 := ⟨m - 9, by omega⟩
                        rw [ei, if_neg k5, skip_2 _ _ (T.mk k n s [f0, p0]) _ _ h2, skip_3 _ _ (T.mk k n s [f0, p0]) _ _ h3, skip_4 _ _ (T.mk k n s [f0, p0]) _ _ h4, skip_5 _ _ (T.mk k n s [f0, p0]) _ _ h5, skip_6 _ _ (T.mk k n s [f0, p0]) _ _ h6, hit_7 _ _ (T.mk k n s [f0, p0]) _ _ h7]; exact h
                      · obtain ⟨m, rfl⟩ : ∃ k, m = k + 9 := ⟨m - 9, by omega⟩
                        rw [sdec_eq, if_neg k5, word_7 h7.2.1, bind_some', if_neg k6', if_neg (by decide)]; exact h
                  · have u7 := h7
                    refine ⟨none, none_ok, (Ev.of (p := fun _ => True) fun _ => trivial).up 9 fun m hm _ => ?_, (Ev.of (p := fun _ => True) fun _ => trivial).up 9 fun m hm _ => ?_⟩
                    · rw [ei, if_neg k5, stop u2 u3 u4 u5 u6 u7 m hm]; rfl
                    · obtain ⟨m, rfl⟩ : ∃ k, m = k + 9 := ⟨m - 9, by omega⟩
                      rw [sdec_eq, if_neg k5]
                      by_cases w2 : s.toList = (⟨#[97, 110, 100, 73]⟩ : ByteArray).toList
                      · have hl : (((ks.length : Nat) : Int) != 4) = true := by simp only [bne_iff_ne]; exact fun q => u2 ⟨k6, w2, q⟩
                        rw [word_2 w2, bind_some', if_neg k6', if_neg (by decide)]
                        show Bk none (if (((ks.length : Nat) : Int) != 4) = true then _ else _)
                        rw [if_pos hl]
                        exact ⟨_, rfl, fun f h => by cases h⟩
                      by_cases w3 : s.toList = (⟨#[102, 115, 116]⟩ : ByteArray).toList
                      · have hl : (((ks.length : Nat) : Int) != 3) = true := by simp only [bne_iff_ne]; exact fun q => u3 ⟨k6, w3, q⟩
                        rw [word_3 w3, bind_some', if_neg k6', if_neg (by decide)]
                        show Bk none (if (((ks.length : Nat) : Int) != 3) = true then _ else _)
                        rw [if_pos hl]
                        exact ⟨_, rfl, fun f h => by cases h⟩
                      by_cases w4 : s.toList = (⟨#[115, 110, 100]⟩ : ByteArray).toList
                      · have hl : (((ks.length : Nat) : Int) != 3) = true := by simp only [bne_iff_ne]; exact fun q => u4 ⟨k6, w4, q⟩
                        rw [word_4 w4, bind_some', if_neg k6', if_neg (by decide)]
                        show Bk none (if (((ks.length : Nat) : Int) != 3) = true then _ else _)
                        rw [if_pos hl]
                        exact ⟨_, rfl, fun f h => by cases h⟩
                      by_cases w5 : s.toList = (⟨#[102, 117, 110, 73]⟩ : ByteArray).toList
                      · have hl : (((ks.length : Nat) : Int) != 3) = true := by simp only [bne_iff_ne]; exact fun q => u5 ⟨k6, w5, q⟩
                        rw [word_5 w5, bind_some', if_neg k6', if_neg (by decide)]
                        show Bk none (if (((ks.length : Nat) : Int) != 3) = true then _ else _)
                        rw [if_pos hl]
                        exact ⟨_, rfl, fun f h => by cases h⟩
                      by_cases w6 : s.toList = (⟨#[117, 115, 101]⟩ : ByteArray).toList
                      · have hl : (((ks.length : Nat) : Int) != 4) = true := by simp only [bne_iff_ne]; exact fun q => u6 ⟨k6, w6, q⟩
                        rw [word_6 w6, bind_some', if_neg k6', if_neg (by decide)]
                        show Bk none (if (((ks.length : Nat) : Int) != 4) = true then _ else _)
                        rw [if_pos hl]
                        exact ⟨_, rfl, fun f h => by cases h⟩
                      by_cases w7 : s.toList = (⟨#[98, 111, 116, 69]⟩ : ByteArray).toList
                      · have hl : (((ks.length : Nat) : Int) != 2) = true := by simp only [bne_iff_ne]; exact fun q => u7 ⟨k6, w7, q⟩
                        rw [word_7 w7, bind_some', if_neg k6', if_neg (by decide)]
                        show Bk none (if (((ks.length : Nat) : Int) != 2) = true then _ else _)
                        rw [if_pos hl]
                        exact ⟨_, rfl, fun f h => by cases h⟩
                      obtain ⟨w, hw, e⟩ := word_0 w2 w3 w4 w5 w6 w7 m
                      rw [e, bind_some', if_neg k6', if_pos hw]
                      exact ⟨_, rfl, fun f h => by cases h⟩
      · have k6' : (k != 6) = true := by simpa using k6
        refine ⟨none, none_ok, (Ev.of (p := fun _ => True) fun _ => trivial).up 9 fun m hm _ => ?_, (Ev.of (p := fun _ => True) fun _ => trivial).up 9 fun m hm _ => ?_⟩
        · rw [ei, if_neg k5, stop (fun h => k6 h.1) (fun h => k6 h.1) (fun h => k6 h.1) (fun h => k6 h.1) (fun h => k6 h.1) (fun h => k6 h.1) m hm]; rfl
        · obtain ⟨m, rfl⟩ : ∃ k, m = k + 9 := ⟨m - 9, by omega⟩
          obtain ⟨w, e⟩ := word_some s m
          rw [sdec_eq, if_neg k5, e, bind_some', if_pos k6']
          exact ⟨_, rfl, fun f h => by cases h⟩

end Go.Am.YtiobknkpdkkikaaDoor
