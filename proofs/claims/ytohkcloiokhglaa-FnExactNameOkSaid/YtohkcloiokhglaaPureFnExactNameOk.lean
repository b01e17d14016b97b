/- Proved: the program's NameOk returns what the reference's returns, for every text of at most 2^47 - 4096 bytes (all that a row speaks of). No further condition. -/
import Derived.Test.YtohkcloiokhglaaPFnExactNameOkx1
namespace Go.Proofs.Ytohkcloiokhglaa.Pure
open Go.RowKit Go.Proofs.Ytohkcloiokhglaa.PFnExactNameOk Go.Proofs.YtohkcloiokhglaaW.PrintWords Go.Proofs.YtohkcloiokhglaaW.PrintLast

def btl (l : List UInt8) (i : Int) : Int := ((l.getD i.toNat 0).toNat : Int)
theorem getD_get (l : List UInt8) (i : Nat) (h : i < l.length) : l.getD i 0 = l[i] := by
  rw [List.getD_eq_getElem?_getD, List.getElem?_eq_getElem h]; rfl
theorem bt_list (s : ByteArray) (i : Int) (h : i.toNat < s.size) : bt s i = ((s.data.toList.getD i.toNat 0).toNat : Int) := by
  rw [← bt_at s i h]
  have hl : i.toNat < s.data.toList.length := by simpa using h
  rw [getD_get _ _ hl]
  simp [ByteArray.getElem_eq_getElem_data]
def alnum (c : UInt8) : Bool := (97 ≤ c.toNat && c.toNat ≤ 122) || (65 ≤ c.toNat && c.toNat ≤ 90) || (48 ≤ c.toNat && c.toNat ≤ 57)
def letter (c : UInt8) : Bool := (97 ≤ c.toNat && c.toNat ≤ 122) || (65 ≤ c.toNat && c.toNat ≤ 90)
def nameB (l : List UInt8) : Bool := decide (1 ≤ l.length) && decide (l.length ≤ 8) && !(decide (48 ≤ (l.getD 0 0).toNat) && decide ((l.getD 0 0).toNat ≤ 57)) && l.all alnum
theorem wrap_up {i : Int} {n : Nat} (h0 : 0 ≤ i) (h : i < (n : Int)) (hn : n ≤ 140737488351232) : wrap64 (i + 1) = i + 1 := by
  unfold wrap64; omega
theorem drop_step (l : List UInt8) (i : Nat) (h : i < l.length) : l.drop i = l.getD i 0 :: l.drop (i + 1) := by
  rw [List.drop_eq_getElem_cons h, getD_get _ _ h]
theorem letter_f (c : UInt8) : spec_l2Letter.f (c.toNat : Int) = some (letter c) := by
  unfold spec_l2Letter.f letter
  have : c.toNat < 256 := c.toNat_lt
  by_cases h1 : (c.toNat : Int) ≥ 97 <;> by_cases h2 : (c.toNat : Int) ≤ 122 <;> by_cases h3 : (c.toNat : Int) ≥ 65 <;> by_cases h4 : (c.toNat : Int) ≤ 90 <;>
    simp only [h1, h2, h3, h4, if_true, if_false] <;> simp <;> omega
theorem impl_loop (s : ByteArray) (hn : s.size ≤ 140737488351232) (d : Nat) : ∀ (k : Nat) (i : Int), 0 ≤ i → i ≤ s.size → (s.size : Int) - i = d → d < k →
    impl_NameOk.l0 k s (s.size : Int) i = some ((s.data.toList.drop i.toNat).all alnum) := by
  induction d with
  | zero =>
    intro k i h0 h1 hd hk
    obtain ⟨k, rfl⟩ : ∃ m, k = m + 1 := ⟨k - 1, by omega⟩
    simp only [impl_NameOk.l0]; rw [if_neg (by omega)]
    rw [List.drop_of_length_le (by simp; omega)]; rfl
  | succ d ih =>
    intro k i h0 h1 hd hk
    obtain ⟨k, rfl⟩ : ∃ m, k = m + 1 := ⟨k - 1, by omega⟩
    have hlt : i < (s.size : Int) := by omega
    have hl : i.toNat < s.data.toList.length := by simp; omega
    simp only [impl_NameOk.l0]; rw [if_pos hlt, if_pos h0, if_pos hlt, wrap_up h0 hlt hn, ih k (i + 1) (by omega) (by omega) (by omega) (by omega)]
    rw [bt_list s i (by omega), drop_step _ _ hl, show (i + 1).toNat = i.toNat + 1 from by omega]
    generalize s.data.toList.getD i.toNat 0 = c
    simp only [List.all_cons]
    generalize (List.drop (i.toNat + 1) s.data.toList).all alnum = b
    unfold alnum
    have : c.toNat < 256 := c.toNat_lt
    by_cases h1 : (c.toNat : Int) ≥ 97 <;> by_cases h2 : (c.toNat : Int) ≤ 122 <;> by_cases h3 : (c.toNat : Int) ≥ 65 <;> by_cases h4 : (c.toNat : Int) ≤ 90 <;> by_cases h5 : (c.toNat : Int) ≥ 48 <;> by_cases h6 : (c.toNat : Int) ≤ 57 <;>
      simp only [h1, h2, h3, h4, h5, h6, if_true, if_false] <;> (first | omega | skip) <;> cases b <;> simp <;> omega
theorem impl_name (s : ByteArray) (hn : s.size ≤ 140737488351232) (k : Nat) (hk : s.size + 2 ≤ k) : impl_NameOk.f k s = some (nameB s.data.toList) := by
  unfold impl_NameOk.f impl_within.f
  obtain ⟨k, rfl⟩ : ∃ m, k = m + 1 := ⟨k - 1, by omega⟩
  have hsz : s.data.toList.length = s.size := by simp
  unfold nameB
  rw [hsz]
  by_cases h1 : (1 : Int) ≤ s.size
  · rw [if_pos h1]; simp only [Option.bind_some]
    by_cases h2 : (s.size : Int) ≤ 8
    · simp only [h2, decide_true, if_true]
      rw [if_pos (by omega), bt_list s 0 (by simp; omega)]
      have e := impl_loop s hn s.size k 0 (by omega) (by omega) (by omega) (by omega)
      simp only [Int.toNat_zero, List.drop_zero] at e ⊢
      have hL : decide (1 ≤ s.size) = true := by simp; omega
      have hR : decide (s.size ≤ 8) = true := by simp; omega
      rw [hL, hR]
      have key : ∀ c : UInt8, (if (c.toNat : Int) ≥ 48 then impl_NameOk.j0 (k + 1) s (decide ((c.toNat : Int) ≤ 57)) else impl_NameOk.j0 (k + 1) s false) =
          some (true && true && !(decide (48 ≤ c.toNat) && decide (c.toNat ≤ 57)) && s.data.toList.all alnum) := by
        intro c
        by_cases h3 : (c.toNat : Int) ≥ 48
        · rw [if_pos h3]
          by_cases h4 : (c.toNat : Int) ≤ 57
          · rw [decide_eq_true h4, decide_eq_true (show 48 ≤ c.toNat by omega), decide_eq_true (show c.toNat ≤ 57 by omega)]; rfl
          · rw [decide_eq_false h4, decide_eq_false (show ¬ c.toNat ≤ 57 by omega)]
            simp only [impl_NameOk.j0, Bool.false_eq_true, if_false]; rw [e]; simp
        · rw [if_neg h3, decide_eq_false (show ¬ 48 ≤ c.toNat by omega)]
          simp only [impl_NameOk.j0, Bool.false_eq_true, if_false]; rw [e]; simp
      exact key _
    · simp only [h2, decide_false, Bool.false_eq_true, if_false, impl_NameOk.j0, if_true]; simp; intros; omega
  · rw [if_neg h1]; simp only [Option.bind_some, Bool.false_eq_true, if_false, impl_NameOk.j0, if_true]; simp; intros; omega
theorem in_f (a b c : Int) : spec_l1In.f a b c = some (decide (b ≤ a) && decide (a ≤ c)) := by
  unfold spec_l1In.f
  by_cases h : a ≥ b
  · rw [if_pos h]; simp; intro; omega
  · rw [if_neg h]; simp; intro; omega
theorem spec_loop (s : ByteArray) (hn : s.size ≤ 140737488351232) (d : Nat) : ∀ (k : Nat) (i : Int), 1 ≤ i → i ≤ s.size → (s.size : Int) - i = d → d < k →
    spec_l2Name.l0 k s i = some ((s.data.toList.drop i.toNat).all alnum && (decide ((1 : Int) ≤ s.size) && decide ((s.size : Int) ≤ 8))) := by
  induction d with
  | zero =>
    intro k i h0 h1 hd hk
    obtain ⟨k, rfl⟩ : ∃ m, k = m + 1 := ⟨k - 1, by omega⟩
    simp only [spec_l2Name.l0]; rw [if_neg (by omega), in_f]
    rw [List.drop_of_length_le (by simp; omega)]; rfl
  | succ d ih =>
    intro k i h0 h1 hd hk
    obtain ⟨k, rfl⟩ : ∃ m, k = m + 1 := ⟨k - 1, by omega⟩
    have hlt : i < (s.size : Int) := by omega
    have hl : i.toNat < s.data.toList.length := by simp; omega
    simp only [spec_l2Name.l0]; rw [if_pos hlt, if_pos (by omega), wrap_up (by omega) hlt hn, ih k (i + 1) (by omega) (by omega) (by omega) (by omega)]
    rw [bt_list s i (by omega), drop_step _ _ hl, show (i + 1).toNat = i.toNat + 1 from by omega, letter_f]
    generalize s.data.toList.getD i.toNat 0 = c
    simp only [List.all_cons, Option.bind_some]
    generalize (List.drop (i.toNat + 1) s.data.toList).all alnum = b
    generalize (decide ((1 : Int) ≤ s.size) && decide ((s.size : Int) ≤ 8)) = b2
    rw [if_neg (show ¬ i = 0 by omega)]
    have : c.toNat < 256 := c.toNat_lt
    by_cases hL : letter c = true
    · rw [if_pos hL]
      have : alnum c = true := by unfold letter at hL; unfold alnum; rw [hL]; rfl
      rw [this]; simp
    · rw [if_neg hL]
      have hA : alnum c = (decide (48 ≤ c.toNat) && decide (c.toNat ≤ 57)) := by
        unfold letter at hL; unfold alnum; rw [Bool.eq_false_iff.mpr hL]; rfl
      rw [hA]
      by_cases h5 : (c.toNat : Int) < 48
      · rw [if_pos h5]; simp; intros; omega
      · rw [if_neg h5]
        by_cases h6 : (c.toNat : Int) > 57
        · rw [if_pos h6]; simp; intros; omega
        · rw [if_neg h6, decide_eq_true (by omega), decide_eq_true (by omega)]; simp
theorem spec_name (s : ByteArray) (hn : s.size ≤ 140737488351232) (k : Nat) (hk : s.size + 2 ≤ k) : spec_l2Name.f k s = some (nameB s.data.toList) := by
  unfold spec_l2Name.f
  obtain ⟨k, rfl⟩ : ∃ m, k = m + 1 := ⟨k - 1, by omega⟩
  have hsz : s.data.toList.length = s.size := by simp
  unfold nameB
  rw [hsz]
  simp only [spec_l2Name.l0]
  by_cases h0 : (0 : Int) < s.size
  · rw [if_pos h0, if_pos (by omega), bt_list s 0 (by simp; omega), letter_f]
    simp only [Option.bind_some]
    rw [wrap_up (by omega) h0 hn, spec_loop s hn (s.size - 1) k (0 + 1) (by omega) (by omega) (by omega) (by omega)]
    have hl : 0 < s.data.toList.length := by simp; omega
    have hd := drop_step s.data.toList 0 hl
    rw [List.drop_zero] at hd
    have ha : s.data.toList.all alnum = (alnum (s.data.toList.getD 0 0) && (s.data.toList.drop 1).all alnum) := by
      conv => lhs; rw [hd]
      rw [List.all_cons]
    rw [ha, show (0 + 1 : Int).toNat = 1 from rfl, show Int.toNat 0 = 0 from rfl]
    generalize s.data.toList.getD 0 0 = c at *
    generalize (List.drop 1 s.data.toList).all alnum = b
    have : c.toNat < 256 := c.toNat_lt
    have e1 : decide ((1 : Int) ≤ s.size) = decide (1 ≤ s.size) := by simp; omega
    have e2 : decide ((s.size : Int) ≤ 8) = decide (s.size ≤ 8) := by simp; omega
    rw [e1, e2]
    generalize decide (1 ≤ s.size) = p1
    generalize decide (s.size ≤ 8) = p2
    by_cases hL : letter c = true
    · rw [if_pos hL]
      have h2 : alnum c = true := by unfold letter at hL; unfold alnum; rw [hL]; rfl
      have h3 : (decide (48 ≤ c.toNat) && decide (c.toNat ≤ 57)) = false := by unfold letter at hL; simp at hL ⊢; omega
      rw [h2, h3]; cases b <;> cases p1 <;> cases p2 <;> rfl
    · rw [if_neg hL, if_pos trivial]
      have hA : alnum c = (decide (48 ≤ c.toNat) && decide (c.toNat ≤ 57)) := by
        unfold letter at hL; unfold alnum; rw [Bool.eq_false_iff.mpr hL]; rfl
      rw [hA]
      cases (decide (48 ≤ c.toNat) && decide (c.toNat ≤ 57)) <;> cases b <;> cases p1 <;> cases p2 <;> rfl
  · rw [if_neg h0, in_f]
    have e1 : decide ((1 : Int) ≤ s.size) = false := decide_eq_false (by omega)
    have e2 : decide (1 ≤ s.size) = false := decide_eq_false (by omega)
    rw [e1, e2]; rfl
theorem FnExactNameOk : laws_FnExactNameOk.Pure := by
  intro s hn
  refine ⟨s.size + 2, ?_⟩
  unfold laws_FnExactNameOk.f spec_NameOk.f
  rw [spec_name s hn _ (Nat.le_refl _), impl_name s hn _ (Nat.le_refl _)]
  simp

end Go.Proofs.Ytohkcloiokhglaa.Pure
