/- Proved: the program's TypeOk returns what the reference's returns, for every text of at most 2^47 - 4096 bytes (all that a row speaks of). No further condition. -/
import Derived.Test.YtohkcloiokhglaaPFnExactTypeOkx3
namespace Go.Proofs.Ytohkcloiokhglaa.Pure
open Go.RowKit Go.Proofs.Ytohkcloiokhglaa.PFnExactTypeOk Go.Proofs.YtohkcloiokhglaaW.PrintWords Go.Proofs.YtohkcloiokhglaaW.PrintLast

def btl (l : List UInt8) (i : Int) : Int := ((l.getD i.toNat 0).toNat : Int)
theorem getD_get (l : List UInt8) (i : Nat) (h : i < l.length) : l.getD i 0 = l[i] := by
  rw [List.getD_eq_getElem?_getD, List.getElem?_eq_getElem h]; rfl
theorem bt_list (s : ByteArray) (i : Int) (h : i.toNat < s.size) : bt s i = ((s.data.toList.getD i.toNat 0).toNat : Int) := by
  rw [← bt_at s i h]
  have hl : i.toNat < s.data.toList.length := by simpa using h
  rw [getD_get _ _ hl]
  simp [ByteArray.getElem_eq_getElem_data]
def alnum (c : UInt8) : Bool := (97 ≤ c.toNat && c.toNat ≤ 122) || (65 ≤ c.toNat && c.toNat ≤ 90) || (48 ≤ c.toNat && c.toNat ≤ 57)
def letter (c : UInt8) : Bool := (97 ≤ c.toNat && c.toNat ≤ 122) || (65 ≤ c.toNat && c.toNat ≤ 90)
def nameB (l : List UInt8) : Bool := decide (1 ≤ l.length) && decide (l.length ≤ 8) && !(decide (48 ≤ (l.getD 0 0).toNat) && decide ((l.getD 0 0).toNat ≤ 57)) && l.all alnum
theorem wrap_up {i : Int} {n : Nat} (h0 : 0 ≤ i) (h : i < (n : Int)) (hn : n ≤ 140737488351232) : wrap64 (i + 1) = i + 1 := by
  unfold wrap64; omega
theorem drop_step (l : List UInt8) (i : Nat) (h : i < l.length) : l.drop i = l.getD i 0 :: l.drop (i + 1) := by
  rw [List.drop_eq_getElem_cons h, getD_get _ _ h]
theorem letter_f (c : UInt8) : spec_l2Letter.f (c.toNat : Int) = some (letter c) := by
  unfold spec_l2Letter.f letter
  have : c.toNat < 256 := c.toNat_lt
  by_cases h1 : (c.toNat : Int) ≥ 97 <;> by_cases h2 : (c.toNat : Int) ≤ 122 <;> by_cases h3 : (c.toNat : Int) ≥ 65 <;> by_cases h4 : (c.toNat : Int) ≤ 90 <;>
    simp only [h1, h2, h3, h4, if_true, if_false] <;> simp <;> omega
theorem impl_loop (s : ByteArray) (hn : s.size ≤ 140737488351232) (d : Nat) : ∀ (k : Nat) (i : Int), 0 ≤ i → i ≤ s.size → (s.size : Int) - i = d → d < k →
    impl_NameOk.l0 k s (s.size : Int) i = some ((s.data.toList.drop i.toNat).all alnum) := by
  induction d with
  | zero =>
    intro k i h0 h1 hd hk
    obtain ⟨k, rfl⟩ : ∃ m, k = m + 1 := ⟨k - 1, by omega⟩
    simp only [impl_NameOk.l0]; rw [if_neg (by omega)]
    rw [List.drop_of_length_le (by simp; omega)]; rfl
  | succ d ih =>
    intro k i h0 h1 hd hk
    obtain ⟨k, rfl⟩ : ∃ m, k = m + 1 := ⟨k - 1, by omega⟩
    have hlt : i < (s.size : Int) := by omega
    have hl : i.toNat < s.data.toList.length := by simp; omega
    simp only [impl_NameOk.l0]; rw [if_pos hlt, if_pos h0, if_pos hlt, wrap_up h0 hlt hn, ih k (i + 1) (by omega) (by omega) (by omega) (by omega)]
    rw [bt_list s i (by omega), drop_step _ _ hl, show (i + 1).toNat = i.toNat + 1 from by omega]
    generalize s.data.toList.getD i.toNat 0 = c
    simp only [List.all_cons]
    generalize (List.drop (i.toNat + 1) s.data.toList).all alnum = b
    unfold alnum
    have : c.toNat < 256 := c.toNat_lt
    by_cases h1 : (c.toNat : Int) ≥ 97 <;> by_cases h2 : (c.toNat : Int) ≤ 122 <;> by_cases h3 : (c.toNat : Int) ≥ 65 <;> by_cases h4 : (c.toNat : Int) ≤ 90 <;> by_cases h5 : (c.toNat : Int) ≥ 48 <;> by_cases h6 : (c.toNat : Int) ≤ 57 <;>
      simp only [h1, h2, h3, h4, h5, h6, if_true, if_false] <;> (first | omega | skip) <;> cases b <;> simp <;> omega
theorem impl_name (s : ByteArray) (hn : s.size ≤ 140737488351232) (k : Nat) (hk : s.size + 2 ≤ k) : impl_NameOk.f k s = some (nameB s.data.toList) := by
  unfold impl_NameOk.f impl_within.f
  obtain ⟨k, rfl⟩ : ∃ m, k = m + 1 := ⟨k - 1, by omega⟩
  have hsz : s.data.toList.length = s.size := by simp
  unfold nameB
  rw [hsz]
  by_cases h1 : (1 : Int) ≤ s.size
  · rw [if_pos h1]; simp only [Option.bind_some]
    by_cases h2 : (s.size : Int) ≤ 8
    · simp only [h2, decide_true, if_true]
      rw [if_pos (by omega), bt_list s 0 (by simp; omega)]
      have e := impl_loop s hn s.size k 0 (by omega) (by omega) (by omega) (by omega)
      simp only [Int.toNat_zero, List.drop_zero] at e ⊢
      have hL : decide (1 ≤ s.size) = true := by simp; omega
      have hR : decide (s.size ≤ 8) = true := by simp; omega
      rw [hL, hR]
      have key : ∀ c : UInt8, (if (c.toNat : Int) ≥ 48 then impl_NameOk.j0 (k + 1) s (decide ((c.toNat : Int) ≤ 57)) else impl_NameOk.j0 (k + 1) s false) =
          some (true && true && !(decide (48 ≤ c.toNat) && decide (c.toNat ≤ 57)) && s.data.toList.all alnum) := by
        intro c
        by_cases h3 : (c.toNat : Int) ≥ 48
        · rw [if_pos h3]
          by_cases h4 : (c.toNat : Int) ≤ 57
          · rw [decide_eq_true h4, decide_eq_true (show 48 ≤ c.toNat by omega), decide_eq_true (show c.toNat ≤ 57 by omega)]; rfl
          · rw [decide_eq_false h4, decide_eq_false (show ¬ c.toNat ≤ 57 by omega)]
            simp only [impl_NameOk.j0, Bool.false_eq_true, if_false]; rw [e]; simp
        · rw [if_neg h3, decide_eq_false (show ¬ 48 ≤ c.toNat by omega)]
          simp only [impl_NameOk.j0, Bool.false_eq_true, if_false]; rw [e]; simp
      exact key _
    · simp only [h2, decide_false, Bool.false_eq_true, if_false, impl_NameOk.j0, if_true]; simp; intros; omega
  · rw [if_neg h1]; simp only [Option.bind_some, Bool.false_eq_true, if_false, impl_NameOk.j0, if_true]; simp; intros; omega
theorem in_f (a b c : Int) : spec_l1In.f a b c = some (decide (b ≤ a) && decide (a ≤ c)) := by
  unfold spec_l1In.f
  by_cases h : a ≥ b
  · rw [if_pos h]; simp; intro; omega
  · rw [if_neg h]; simp; intro; omega
theorem spec_loop (s : ByteArray) (hn : s.size ≤ 140737488351232) (d : Nat) : ∀ (k : Nat) (i : Int), 1 ≤ i → i ≤ s.size → (s.size : Int) - i = d → d < k →
    spec_l2Name.l0 k s i = some ((s.data.toList.drop i.toNat).all alnum && (decide ((1 : Int) ≤ s.size) && decide ((s.size : Int) ≤ 8))) := by
  induction d with
  | zero =>
    intro k i h0 h1 hd hk
    obtain ⟨k, rfl⟩ : ∃ m, k = m + 1 := ⟨k - 1, by omega⟩
    simp only [spec_l2Name.l0]; rw [if_neg (by omega), in_f]
    rw [List.drop_of_length_le (by simp; omega)]; rfl
  | succ d ih =>
    intro k i h0 h1 hd hk
    obtain ⟨k, rfl⟩ : ∃ m, k = m + 1 := ⟨k - 1, by omega⟩
    have hlt : i < (s.size : Int) := by omega
    have hl : i.toNat < s.data.toList.length := by simp; omega
    simp only [spec_l2Name.l0]; rw [if_pos hlt, if_pos (by omega), wrap_up (by omega) hlt hn, ih k (i + 1) (by omega) (by omega) (by omega) (by omega)]
    rw [bt_list s i (by omega), drop_step _ _ hl, show (i + 1).toNat = i.toNat + 1 from by omega, letter_f]
    generalize s.data.toList.getD i.toNat 0 = c
    simp only [List.all_cons, Option.bind_some]
    generalize (List.drop (i.toNat + 1) s.data.toList).all alnum = b
    generalize (decide ((1 : Int) ≤ s.size) && decide ((s.size : Int) ≤ 8)) = b2
    rw [if_neg (show ¬ i = 0 by omega)]
    have : c.toNat < 256 := c.toNat_lt
    by_cases hL : letter c = true
    · rw [if_pos hL]
      have : alnum c = true := by unfold letter at hL; unfold alnum; rw [hL]; rfl
      rw [this]; simp
    · rw [if_neg hL]
      have hA : alnum c = (decide (48 ≤ c.toNat) && decide (c.toNat ≤ 57)) := by
        unfold letter at hL; unfold alnum; rw [Bool.eq_false_iff.mpr hL]; rfl
      rw [hA]
      by_cases h5 : (c.toNat : Int) < 48
      · rw [if_pos h5]; simp; intros; omega
      · rw [if_neg h5]
        by_cases h6 : (c.toNat : Int) > 57
        · rw [if_pos h6]; simp; intros; omega
        · rw [if_neg h6, decide_eq_true (by omega), decide_eq_true (by omega)]; simp
theorem spec_name (s : ByteArray) (hn : s.size ≤ 140737488351232) (k : Nat) (hk : s.size + 2 ≤ k) : spec_l2Name.f k s = some (nameB s.data.toList) := by
  unfold spec_l2Name.f
  obtain ⟨k, rfl⟩ : ∃ m, k = m + 1 := ⟨k - 1, by omega⟩
  have hsz : s.data.toList.length = s.size := by simp
  unfold nameB
  rw [hsz]
  simp only [spec_l2Name.l0]
  by_cases h0 : (0 : Int) < s.size
  · rw [if_pos h0, if_pos (by omega), bt_list s 0 (by simp; omega), letter_f]
    simp only [Option.bind_some]
    rw [wrap_up (by omega) h0 hn, spec_loop s hn (s.size - 1) k (0 + 1) (by omega) (by omega) (by omega) (by omega)]
    have hl : 0 < s.data.toList.length := by simp; omega
    have hd := drop_step s.data.toList 0 hl
    rw [List.drop_zero] at hd
    have ha : s.data.toList.all alnum = (alnum (s.data.toList.getD 0 0) && (s.data.toList.drop 1).all alnum) := by
      conv => lhs; rw [hd]
      rw [List.all_cons]
    rw [ha, show (0 + 1 : Int).toNat = 1 from rfl, show Int.toNat 0 = 0 from rfl]
    generalize s.data.toList.getD 0 0 = c at *
    generalize (List.drop 1 s.data.toList).all alnum = b
    have : c.toNat < 256 := c.toNat_lt
    have e1 : decide ((1 : Int) ≤ s.size) = decide (1 ≤ s.size) := by simp; omega
    have e2 : decide ((s.size : Int) ≤ 8) = decide (s.size ≤ 8) := by simp; omega
    rw [e1, e2]
    generalize decide (1 ≤ s.size) = p1
    generalize decide (s.size ≤ 8) = p2
    by_cases hL : letter c = true
    · rw [if_pos hL]
      have h2 : alnum c = true := by unfold letter at hL; unfold alnum; rw [hL]; rfl
      have h3 : (decide (48 ≤ c.toNat) && decide (c.toNat ≤ 57)) = false := by unfold letter at hL; simp at hL ⊢; omega
      rw [h2, h3]; cases b <;> cases p1 <;> cases p2 <;> rfl
    · rw [if_neg hL, if_pos trivial]
      have hA : alnum c = (decide (48 ≤ c.toNat) && decide (c.toNat ≤ 57)) := by
        unfold letter at hL; unfold alnum; rw [Bool.eq_false_iff.mpr hL]; rfl
      rw [hA]
      cases (decide (48 ≤ c.toNat) && decide (c.toNat ≤ 57)) <;> cases b <;> cases p1 <;> cases p2 <;> rfl
  · rw [if_neg h0, in_f]
    have e1 : decide ((1 : Int) ≤ s.size) = false := decide_eq_false (by omega)
    have e2 : decide (1 ≤ s.size) = false := decide_eq_false (by omega)
    rw [e1, e2]; rfl

theorem ext_list (s : ByteArray) (a b : Nat) : (s.extract a b).data.toList = (s.data.toList.take b).drop a := by
  simp [ByteArray.data_extract, Array.toList_extract]
  rw [List.drop_take]
def endB (l : List UInt8) : Int :=
  if ((l.drop 1).takeWhile (fun c => c != 59)).length < (l.drop 1).length then
    (if nameB ((l.drop 1).takeWhile (fun c => c != 59)) = true then (((l.drop 1).takeWhile (fun c => c != 59)).length : Int) + 2 else -1) else -1
theorem end_loop (s : ByteArray) (hn : s.size ≤ 140737488351232) (d : Nat) : ∀ (k : Nat) (i : Int), 1 ≤ i → i ≤ s.size → (s.size : Int) - i = d → d + s.size + 3 ≤ k →
    (s.data.toList.drop 1).takeWhile (fun c => c != 59) = (s.data.toList.drop 1).take (i.toNat - 1) ++ (s.data.toList.drop i.toNat).takeWhile (fun c => c != 59) →
    spec_l2TypeEnd.l0 k s 0 i = some (endB s.data.toList) := by
  induction d with
  | zero =>
    intro k i h0 h1 hd hk hi
    obtain ⟨k, rfl⟩ : ∃ m, k = m + 1 := ⟨k - 1, by omega⟩
    have hsz : s.data.toList.length = s.size := by simp
    simp only [spec_l2TypeEnd.l0]; rw [if_neg (by omega)]
    unfold endB
    rw [if_neg]
    rw [hi, List.drop_of_length_le (show s.data.toList.length ≤ i.toNat by omega), List.takeWhile_nil, List.append_nil, List.length_take, List.length_drop]
    omega
  | succ d ih =>
    intro k i h0 h1 hd hk hi
    obtain ⟨k, rfl⟩ : ∃ m, k = m + 1 := ⟨k - 1, by omega⟩
    have hlt : i < (s.size : Int) := by omega
    have hsz : s.data.toList.length = s.size := by simp
    have hl : i.toNat < s.data.toList.length := by omega
    simp only [spec_l2TypeEnd.l0]; rw [if_pos hlt, if_pos (by omega), wrap_up (by omega) hlt hn, bt_list s i (by omega)]
    have hw : wrap64 ((0 : Int) + 1) = 1 := by unfold wrap64; omega
    rw [hw]
    have hstep := drop_step s.data.toList i.toNat hl
    by_cases hc : s.data.toList.getD i.toNat 0 = 59
    · rw [if_pos (by rw [hc]; rfl), if_pos (by omega), if_pos h0, if_pos h1]
      have hex : (s.extract (1 : Int).toNat i.toNat).data.toList = (s.data.toList.drop 1).take (i.toNat - 1) := by
        rw [ext_list, List.drop_take]; rfl
      have hes : (s.extract (1 : Int).toNat i.toNat).size ≤ s.size := by
        rw [← ByteArray.size_data, ← Array.length_toList, hex, List.length_take, List.length_drop]; omega
      rw [spec_name _ (by omega) _ (by omega), hex]
      rw [hstep, hc] at hi
      simp only [List.takeWhile_cons, bne_self_eq_false, Bool.false_eq_true, if_false, List.append_nil] at hi
      unfold endB
      rw [hi, if_pos (by rw [List.length_take, List.length_drop]; omega)]
      simp only [Option.bind_some]
      rw [List.length_take, List.length_drop]
      by_cases hN : nameB ((s.data.toList.drop 1).take (i.toNat - 1)) = true
      · rw [if_pos hN, if_pos hN]; congr 1; omega
      · rw [if_neg hN, if_neg hN]
    · have hc' : ¬ ((s.data.toList.getD i.toNat 0).toNat : Int) = 59 := by
        intro h; apply hc; apply UInt8.toNat_inj.mp; exact Int.ofNat_inj.mp h
      rw [if_neg hc']
      apply ih k (i + 1) (by omega) (by omega) (by omega) (by omega)
      rw [hi, hstep, show (i + 1).toNat = i.toNat + 1 from by omega]
      have hcb : (s.data.toList.getD i.toNat 0 != 59) = true := by simpa using hc
      simp only [List.takeWhile_cons, hcb, if_true]
      rw [show i.toNat + 1 - 1 = (i.toNat - 1) + 1 by omega, List.take_add_one, List.append_assoc]
      congr 1
      rw [List.getElem?_drop, show 1 + (i.toNat - 1) = i.toNat by omega, List.getElem?_eq_getElem hl, getD_get _ _ hl]; rfl
def typeB (l : List UInt8) : Bool := (l == [73]) || (l.head? == some 76 && (l.drop 1).getLast? == some 59 && nameB (l.drop 1).dropLast)
theorem nameB_all {l : List UInt8} (h : nameB l = true) : l.all alnum = true := by
  unfold nameB at h; simp only [Bool.and_eq_true] at h; exact h.2
theorem tw_all {p : List UInt8} (h : p.all alnum = true) : (p ++ [59]).takeWhile (fun c => c != 59) = p := by
  induction p with
  | nil => rfl
  | cons a p ih =>
    simp only [List.all_cons, Bool.and_eq_true] at h
    have : (a != 59) = true := by
      rcases Decidable.em (a = 59) with rfl | h2
      · exact absurd h.1 (by decide)
      · simpa using h2
    simp only [List.cons_append, List.takeWhile_cons, this, if_true, ih h.2]
theorem tw_last : ∀ (r : List UInt8), (r.takeWhile (fun c => c != 59)).length + 1 = r.length → r = r.takeWhile (fun c => c != 59) ++ [59] := by
  intro r
  induction r with
  | nil => intro h; simp at h
  | cons a r ih =>
    intro h
    by_cases ha : a = 59
    · subst ha; simp only [List.takeWhile_cons, bne_self_eq_false, Bool.false_eq_true, if_false, List.length_nil, List.length_cons] at h ⊢
      have : r = [] := List.length_eq_zero_iff.mp (by omega)
      rw [this]; rfl
    · have hb : (a != 59) = true := by simpa using ha
      simp only [List.takeWhile_cons, hb, if_true, List.length_cons, List.cons_append] at h ⊢
      rw [← ih (by omega)]
theorem end_type (r : List UInt8) : (endB (76 :: r) == ((76 :: r : List UInt8).length : Int)) = typeB (76 :: r) := by
  have hx : ((76 :: r : List UInt8) == [73]) = false := by
    apply Bool.eq_false_iff.mpr; intro h; have := eq_of_beq h; injection this with h1 _; exact absurd h1 (by decide)
  have hh : ((76 :: r : List UInt8).head? == some 76) = true := by simp
  unfold typeB endB
  rw [hx, hh, List.drop_one, List.tail_cons, Bool.false_or, Bool.true_and]
  by_cases hr : r.getLast? = some 59 ∧ nameB r.dropLast = true
  · obtain ⟨h1, h2⟩ := hr
    have hne : r ≠ [] := by rintro rfl; simp at h1
    have hl : r = r.dropLast ++ [59] := by
      have := List.dropLast_concat_getLast hne
      rw [List.getLast?_eq_some_getLast hne] at h1; rw [Option.some.inj h1] at this; exact this.symm
    have ht : r.takeWhile (fun c => c != 59) = r.dropLast := by
      conv => lhs; rw [hl]
      exact tw_all (nameB_all h2)
    have hlen : r.length = r.dropLast.length + 1 := by conv => lhs; rw [hl]
                                                       simp
    rw [ht, if_pos (by omega), if_pos h2, h1, h2]
    simp only [List.length_cons, beq_self_eq_true, Bool.and_self, beq_iff_eq]; omega
  · have hf : (r.getLast? == some 59 && nameB r.dropLast) = false := by
      apply Bool.eq_false_iff.mpr; intro h; simp only [Bool.and_eq_true, beq_iff_eq] at h; exact hr h
    rw [hf]
    by_cases h1 : (r.takeWhile (fun c => c != 59)).length < r.length
    · rw [if_pos h1]
      by_cases h2 : nameB (r.takeWhile (fun c => c != 59)) = true
      · rw [if_pos h2]
        apply Bool.eq_false_iff.mpr; intro h
        have h := eq_of_beq h
        simp only [List.length_cons] at h
        have hl := tw_last r (by omega)
        apply hr
        refine ⟨by rw [hl]; simp, ?_⟩
        have : r.dropLast = r.takeWhile (fun c => c != 59) := by conv => lhs; rw [hl]
                                                                 simp
        rw [this]; exact h2
      · rw [if_neg h2]; apply Bool.eq_false_iff.mpr; intro h
        have h := eq_of_beq h; simp only [List.length_cons] at h; omega
    · rw [if_neg h1]; apply Bool.eq_false_iff.mpr; intro h
      have h := eq_of_beq h; simp only [List.length_cons] at h; omega
theorem size_len (s : ByteArray) : (s.size : Int) = (s.data.toList.length : Int) := by simp
theorem spec_type (s : ByteArray) (hn : s.size ≤ 140737488351232) (k : Nat) (hk : 2 * s.size + 10 ≤ k) : spec_l2Type.f k s = some (typeB s.data.toList) := by
  unfold spec_l2Type.f spec_l2TypeEnd.f
  obtain ⟨k, rfl⟩ : ∃ m, k = m + 2 := ⟨k - 2, by omega⟩
  have hsz : s.data.toList.length = s.size := by simp
  by_cases h0 : (s.size : Int) > 0
  · rw [if_pos h0, if_pos h0, if_pos (by omega), bt_list s 0 (by simp; omega)]
    have hloop := end_loop s hn (s.size - 1) k 1 (by omega) (by omega) (by omega) (by omega) (by simp)
    rw [size_len]
    cases hs : s.data.toList with
    | nil => rw [hs] at hsz; simp at hsz; omega
    | cons c r =>
      rw [hs] at hloop
      simp only [Int.toNat_zero, List.getD_cons_zero]
      by_cases h73 : c = 73
      · subst h73
        simp only [spec_l2TypeEnd.j0]
        rw [if_pos (by rfl)]
        simp only [Option.bind_some]
        congr 1
        unfold typeB
        cases r with
        | nil =>
          have : wrap64 ((0 : Int) + 1) = 1 := by unfold wrap64; omega
          rw [this]; rfl
        | cons d r =>
          have : wrap64 ((0 : Int) + 1) = 1 := by unfold wrap64; omega
          rw [this]
          have e1 : ((1 : Int) == ((73 :: d :: r : List UInt8).length : Int)) = false := by
            apply Bool.eq_false_iff.mpr; intro h; have h := eq_of_beq h; simp only [List.length_cons] at h; omega
          rw [e1]; simp
      · have hc : ((c.toNat : Int) == 73) = false := by
          apply Bool.eq_false_iff.mpr; intro h; have h := eq_of_beq h
          apply h73; apply UInt8.toNat_inj.mp; exact Int.ofNat_inj.mp h
        rw [hc]
        simp only [spec_l2TypeEnd.j0]
        rw [if_neg (by decide), if_neg (by omega), if_pos (by omega), if_pos h0]
        rw [bt_list s 0 (by simp; omega), hs]
        simp only [Int.toNat_zero, List.getD_cons_zero, spec_l2TypeEnd.j1]
        by_cases h76 : c = 76
        · subst h76
          rw [if_neg (by decide)]
          have hw : wrap64 ((0 : Int) + 1) = 1 := by unfold wrap64; omega
          rw [hw, hloop]
          simp only [Option.bind_some]
          rw [end_type]
        · have hc2 : ((c.toNat : Int) != 76) = true := by
            simp only [bne_iff_ne]; intro h
            apply h76; apply UInt8.toNat_inj.mp; exact Int.ofNat_inj.mp h
          rw [hc2, if_pos rfl]
          simp only [Option.bind_some]
          congr 1
          have hl : ((-1 : Int) == ((c :: r : List UInt8).length : Int)) = false := by
            apply Bool.eq_false_iff.mpr; intro h; have h := eq_of_beq h; simp only [List.length_cons] at h; omega
          rw [hl]; unfold typeB; simp [h73, h76]
  · rw [if_neg h0]
    have : s.data.toList = [] := List.length_eq_zero_iff.mp (by omega)
    rw [this]; rfl
theorem cutp (s : ByteArray) (x : UInt8) : ∃ t, strings_CutPrefix.f s ⟨#[x]⟩ = some (t, s.data.toList.head? == some x) ∧ t.size ≤ s.size ∧ t.data.toList = (if s.data.toList.head? = some x then s.data.toList.drop 1 else s.data.toList) := by
  unfold strings_CutPrefix.f stringslite_CutPrefix.f stringslite_HasPrefix.f
  have hsz : s.data.toList.length = s.size := by simp
  have h1 : (((⟨#[x]⟩ : ByteArray).size : Nat) : Int) = 1 := rfl
  rw [h1]
  by_cases h0 : (s.size : Int) ≥ 1
  · rw [if_pos h0, if_pos (by omega), if_pos (by omega)]
    simp only [Option.bind_some]
    cases hs : s.data.toList with
    | nil => rw [hs] at hsz; simp at hsz; omega
    | cons c r =>
      have he : ((s.extract 0 (1 : Int).toNat).toList == (⟨#[x]⟩ : ByteArray).toList) = (c == x) := by
        rw [ByteArray.toList_eq, ByteArray.toList_eq, ext_list, hs]
        simp
      rw [he]
      by_cases hc : c = x
      · subst hc
        rw [if_pos (by simp), if_pos (by omega), if_pos (by omega)]
        refine ⟨_, by simp; rfl, ?_, ?_⟩
        · rw [← ByteArray.size_data, ← Array.length_toList, ext_list, List.length_drop, List.length_take]; omega
        · rw [ext_list, hs]; rw [hs] at hsz; simp [← hsz]
      · rw [if_neg (by simpa using hc)]
        refine ⟨s, by simp [hc], Nat.le_refl _, by simp [hc, hs]⟩
  · rw [if_neg h0]
    have : s.data.toList = [] := List.length_eq_zero_iff.mp (by omega)
    exact ⟨s, by simp [this], Nat.le_refl _, by simp [this]⟩
theorem cuts (s : ByteArray) (hn : s.size ≤ 140737488351232) (x : UInt8) : ∃ t, strings_CutSuffix.f s ⟨#[x]⟩ = some (t, s.data.toList.getLast? == some x) ∧ t.size ≤ s.size ∧ t.data.toList = (if s.data.toList.getLast? = some x then s.data.toList.dropLast else s.data.toList) := by
  unfold strings_CutSuffix.f stringslite_CutSuffix.f stringslite_HasSuffix.f
  have hsz : s.data.toList.length = s.size := by simp
  have h1 : (((⟨#[x]⟩ : ByteArray).size : Nat) : Int) = 1 := rfl
  rw [h1]
  by_cases h0 : (s.size : Int) ≥ 1
  · have hw : wrap64 ((s.size : Int) - 1) = (s.size : Int) - 1 := by unfold wrap64; omega
    rw [hw, if_pos h0, if_pos (by omega), if_pos (by omega)]
    simp only [Option.bind_some]
    have hne : s.data.toList ≠ [] := by intro h; rw [h] at hsz; simp at hsz; omega
    have hd : s.data.toList = s.data.toList.dropLast ++ [s.data.toList.getLast hne] := (List.dropLast_concat_getLast hne).symm
    have hg : s.data.toList.getLast? = some (s.data.toList.getLast hne) := List.getLast?_eq_some_getLast hne
    rw [hg]
    generalize s.data.toList.getLast hne = c at hd
    have hlen : s.data.toList.dropLast.length = s.size - 1 := by rw [List.length_dropLast]; omega
    have he : ((s.extract ((s.size : Int) - 1).toNat s.size).toList == (⟨#[x]⟩ : ByteArray).toList) = (c == x) := by
      rw [ByteArray.toList_eq, ByteArray.toList_eq, ext_list, ← hsz, List.take_length, hsz]
      conv => lhs; rw [hd]
      rw [show ((s.size : Int) - 1).toNat = s.data.toList.dropLast.length by omega, List.drop_left]
      simp
    rw [he]
    by_cases hc : c = x
    · subst hc
      rw [if_pos (by simp), if_pos (by omega), if_pos (by omega)]
      refine ⟨_, by simp; rfl, ?_, ?_⟩
      · rw [← ByteArray.size_data, ← Array.length_toList, ext_list, List.length_drop, List.length_take]; omega
      · rw [ext_list, if_pos rfl, List.drop_zero, List.dropLast_eq_take]
        congr 1
    · rw [if_neg (by simpa using hc)]
      refine ⟨s, by simp [hc], Nat.le_refl _, by simp [hc]⟩
  · rw [if_neg h0]
    have : s.data.toList = [] := List.length_eq_zero_iff.mp (by omega)
    exact ⟨s, by simp [this], Nat.le_refl _, by simp [this]⟩
theorem impl_type (s : ByteArray) (hn : s.size ≤ 140737488351232) (k : Nat) (hk : 2 * s.size + 10 ≤ k) : impl_TypeOk.f k s = some (typeB s.data.toList) := by
  unfold impl_TypeOk.f impl_classOf.f
  obtain ⟨t, e1, h1, h2⟩ := cutp s 76
  rw [e1]; simp only [Option.bind_some]
  obtain ⟨u, e2, h3, h4⟩ := cuts t (by omega) 59
  rw [e2]; simp only [Option.bind_some]
  rw [ByteArray.toList_eq]
  by_cases hh : s.data.toList.head? = some 76
  · have hx : (s.data.toList == ([73] : List UInt8)) = false := by
      apply Bool.eq_false_iff.mpr; intro h; rw [eq_of_beq h] at hh; revert hh; decide
    rw [if_pos hh] at h2
    rw [hh, if_pos (by rfl)]
    rw [h2] at h4
    rw [h2]
    by_cases hl : (s.data.toList.drop 1).getLast? = some 59
    · rw [if_pos hl] at h4
      rw [hl, if_pos (by rfl), impl_name u (by omega) _ (by omega), h4]
      simp only [Option.bind_some]
      unfold typeB
      rw [hx, hh, hl]
      by_cases hb : nameB (s.data.toList.drop 1).dropLast = true
      · rw [if_pos hb, hb]; rfl
      · rw [if_neg hb, Bool.eq_false_iff.mpr hb]; rfl
    · have hl' : ((s.data.toList.drop 1).getLast? == some 59) = false := by simpa using hl
      rw [hl', if_neg (by decide)]
      simp only [Option.bind_some]
      rw [if_neg (by decide), hx]
      unfold typeB; rw [hx, hl']; simp
  · have hh' : (s.data.toList.head? == some 76) = false := by simpa using hh
    rw [hh', if_neg (by decide)]
    simp only [Option.bind_some]
    rw [if_neg (by decide)]
    unfold typeB; rw [hh']; simp
theorem FnExactTypeOk : laws_FnExactTypeOk.Pure := by
  intro s hn
  refine ⟨2 * s.size + 10, ?_⟩
  unfold laws_FnExactTypeOk.f spec_TypeOk.f
  rw [spec_type s hn _ (Nat.le_refl _), impl_type s hn _ (Nat.le_refl _)]
  simp

end Go.Proofs.Ytohkcloiokhglaa.Pure
