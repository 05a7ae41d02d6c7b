/-
  The plain law: what the program picks and what the reference picks are one.
-/
import Derived.Test.YtgeohmfbodlgeaaW9
import Derived.Test.YtgeohmfbodlgeaaR1
namespace Go.Proofs.Ytgeohmfbodlgeaa
open Go.RowKit

/-! soundness -/
theorem sound_inv : ∀ (xs : List RM) (seen : List Int), soundL xs seen = true → (∀ x ∈ xs, 1 ≤ x.num ∧ 0 ≤ x.bytes ∧ seen.contains x.num = false) ∧ (xs.map (·.num)).Nodup
  | [], _, _ => ⟨(by intro x h; cases h), List.nodup_nil⟩
  | x :: r, seen, h => by
    rw [soundL] at h
    split at h
    · cases h
    · next h1 =>
      split at h
      · cases h
      · next h2 =>
        split at h
        · cases h
        · next h3 =>
          obtain ⟨i1, i2⟩ := sound_inv r _ h
          refine ⟨fun y hy => ?_, ?_⟩
          · rcases List.mem_cons.1 hy with rfl | hy
            · exact ⟨by omega, by omega, by simpa using h3⟩
            · obtain ⟨a, b, c⟩ := i1 y hy
              refine ⟨a, b, ?_⟩
              simp only [List.contains_eq_mem, decide_eq_false_iff_not, List.mem_cons, not_or] at c ⊢
              exact c.2
          · rw [List.map_cons, List.nodup_cons]
            refine ⟨fun hm => ?_, i2⟩
            obtain ⟨y, hy, e⟩ := List.mem_map.1 hm
            have := (i1 y hy).2.2
            simp [e] at this

/-! sums -/
theorem sum_big : ∀ (xs : List RM) (a : Int), 16777216 < a → (∀ x ∈ xs, 0 ≤ x.bytes) → 16777216 < xs.foldl (fun a x => addedL a x.bytes) a
  | [], a, h, _ => h
  | x :: r, a, h, hp => by
    have := hp x (by simp)
    rw [List.foldl_cons]
    exact sum_big r _ (by unfold addedL; split <;> omega) (fun y hy => hp y (by simp [hy]))
theorem fits_sum : ∀ (xs : List RM) (a : Int), 0 ≤ a → a ≤ 16777216 → (∀ x ∈ xs, 0 ≤ x.bytes) → fitsL xs (16777216 - a) = decide (xs.foldl (fun a x => addedL a x.bytes) a ≤ 16777216)
  | [], a, h0, h1, _ => by simp [fitsL, h1]
  | x :: r, a, h0, h1, hp => by
    have hx := hp x (by simp)
    have hr : ∀ y ∈ r, 0 ≤ y.bytes := fun y hy => hp y (by simp [hy])
    rw [fitsL, List.foldl_cons]
    by_cases h : 16777216 - a < x.bytes
    · rw [if_pos h]
      symm
      rw [decide_eq_false_iff_not]
      have := sum_big r (addedL a x.bytes) (by unfold addedL; split <;> omega) hr
      omega
    · rw [if_neg h]
      have e : addedL a x.bytes = a + x.bytes := by unfold addedL; rw [if_neg (by omega)]
      have := fits_sum r (a + x.bytes) (by omega) (by omega) hr
      rw [e, ← this]
      congr 1
      omega
theorem fits_eq (xs : List RM) (h : ∀ x ∈ xs, 0 ≤ x.bytes) : fitsL xs 16777216 = decide (sumA xs ≤ 16777216) := by
  have := fits_sum xs 0 (by omega) (by omega) h
  rw [Int.sub_zero] at this
  exact this

/-! numbers -/
theorem nums_all (xs : List RM) : numsL xs (xs.map (·.num)) = xs.map (·.num) := by
  unfold numsL
  congr 1
  rw [List.filter_eq_self]
  intro x hx
  rw [List.contains_iff_mem]
  exact List.mem_map_of_mem hx

theorem pk_eq (x : RM) : ∀ (t : List RM), (t.map (·.num)).Nodup → pk t x = if (t.map (·.num)).contains x.num then [x.num] else []
  | [], _ => by simp [pk]
  | y :: r, h => by
    rw [List.map_cons, List.nodup_cons] at h
    have ih := pk_eq x r h.2
    unfold pk at *
    rw [List.filter_cons]
    by_cases e : y.num = x.num
    · have hr : (r.map (·.num)).contains x.num = false := by
        rw [← e]; simpa using h.1
      rw [hr] at ih
      simp only [Bool.false_eq_true, if_false] at ih
      rw [if_pos (by simpa using e), List.map_cons, ih]
      simp [e]
    · have e' : ¬ x.num = y.num := fun h => e h.symm
      rw [if_neg (by simpa using e), ih]
      simp [e']
theorem picked_eq (xs t : List RM) (h : (t.map (·.num)).Nodup) : pickedL xs t = numsL xs (t.map (·.num)) := by
  unfold pickedL numsL
  induction xs with
  | nil => rfl
  | cons x r ih =>
    rw [List.flatMap_cons, ih, pk_eq x t h, List.filter_cons]
    split <;> simp

/-! the order -/
theorem before_iff (a b : RM) : before a b = true ↔ (a.bytes < b.bytes ∨ (a.bytes = b.bytes ∧ a.num < b.num)) := by simp [before]
theorem before_f (a b : RM) : before a b = false ↔ ¬ (a.bytes < b.bytes ∨ (a.bytes = b.bytes ∧ a.num < b.num)) := by rw [← before_iff]; simp

theorem take_posL (x : RM) : ∀ (m : List RM), ∀ y ∈ m.take (posL m x), before y x = true
  | [], y, h => by simp at h
  | z :: r, y, h => by
    unfold posL at h
    by_cases hb : before z x = true
    · rw [List.takeWhile_cons, if_pos hb, List.length_cons, List.take_succ_cons] at h
      rcases List.mem_cons.1 h with rfl | h
      · exact hb
      · exact take_posL x r y h
    · rw [List.takeWhile_cons, if_neg hb] at h
      simp at h
theorem drop_posL (x : RM) : ∀ (m : List RM), Sorted m → ∀ y ∈ m.drop (posL m x), before y x = false
  | [], _, y, h => by simp at h
  | z :: r, hs, y, h => by
    unfold posL at h
    unfold Sorted at hs
    rw [List.pairwise_cons] at hs
    by_cases hb : before z x = true
    · rw [List.takeWhile_cons, if_pos hb, List.length_cons, List.drop_succ_cons] at h
      exact drop_posL x r hs.2 y h
    · rw [List.takeWhile_cons, if_neg hb] at h
      simp only [List.length_nil, List.drop_zero] at h
      have hz : before z x = false := by simpa using hb
      rcases List.mem_cons.1 h with rfl | h
      · exact hz
      · have := hs.1 y h
        rw [before_f] at *
        omega
theorem insL_sorted (m : List RM) (x : RM) (h : Sorted m) : Sorted (insL m x) := by
  have h1 := take_posL x m
  have h2 := drop_posL x m h
  have hm : Sorted (m.take (posL m x) ++ m.drop (posL m x)) := by rw [List.take_append_drop]; exact h
  unfold Sorted at *
  rw [List.pairwise_append] at hm
  unfold insL
  rw [List.pairwise_append, List.pairwise_append]
  refine ⟨⟨hm.1, List.pairwise_singleton _ _, ?_⟩, hm.2.1, ?_⟩
  · intro a ha b hb
    simp at hb; subst hb
    have := h1 a ha
    rw [before_iff] at this
    rw [before_f]
    omega
  · intro a ha b hb
    rw [List.mem_append] at ha
    rcases ha with ha | ha
    · exact hm.2.2 a ha b hb
    · simp at ha; subst ha
      exact h2 b hb
theorem sortedL_sorted : ∀ (xs m : List RM), Sorted m → Sorted (sortedL xs m)
  | [], _, h => h
  | x :: r, m, h => by rw [sortedL]; exact sortedL_sorted r _ (insL_sorted m x h)

theorem nodup_eq {xs : List RM} (h : (xs.map (·.num)).Nodup) {a b : RM} (ha : a ∈ xs) (hb : b ∈ xs) (e : a.num = b.num) : a = b := by
  induction xs with
  | nil => cases ha
  | cons x r ih =>
    rw [List.map_cons, List.nodup_cons] at h
    rcases List.mem_cons.1 ha with ea | ha'
    · rcases List.mem_cons.1 hb with eb | hb'
      · rw [ea, eb]
      · exact absurd (List.mem_map.2 ⟨b, hb', by rw [← e, ea]⟩) h.1
    · rcases List.mem_cons.1 hb with eb | hb'
      · exact absurd (List.mem_map.2 ⟨a, ha', by rw [e, eb]⟩) h.1
      · exact ih h.2 ha' hb'

theorem sorted_one (xs ys : List RM) (hn : (xs.map (·.num)).Nodup) (hp : ys.Perm xs) (hs : Sorted ys) : ys = sortedL xs [] := by
  have hq : (sortedL xs []).Perm xs := by simpa using sortedL_perm xs []
  refine List.Perm.eq_of_pairwise (le := fun a b => before b a = false) ?_ hs (sortedL_sorted xs [] List.Pairwise.nil) (hp.trans hq.symm)
  intro a b ha hb h1 h2
  rw [before_f] at h1 h2
  exact nodup_eq hn (hp.mem_iff.1 ha) (hq.mem_iff.1 hb) (by omega)

/-! the scans -/
theorem ok_iff (R b : Int) (y : RM) (hR : 2 ≤ R) : okR R b y = decide (y.bytes ≤ b * R) := by
  have h1 : y.bytes = R * (y.bytes / R) + y.bytes % R := (Int.mul_ediv_add_emod y.bytes R).symm
  have h2 : 0 ≤ y.bytes % R := Int.emod_nonneg _ (by omega)
  have h3 : y.bytes % R < R := Int.emod_lt_of_pos _ (by omega)
  unfold okR
  generalize y.bytes / R = q at h1 ⊢
  generalize y.bytes % R = m at h1 h2 h3 ⊢
  rw [h1]
  rcases Int.lt_trichotomy q b with h | h | h
  · have e1 : ¬ b < q := by omega
    have e2 : (q == b) = false := by simp; omega
    have e3 : R * q + m ≤ b * R := by
      have : R * (q + 1) ≤ R * b := Int.mul_le_mul_of_nonneg_left (by omega) (by omega)
      rw [Int.mul_add, Int.mul_one] at this
      rw [Int.mul_comm b R]
      omega
    simp [e1, e2, e3]
  · subst h
    have e3 : (R * q + m ≤ q * R) ↔ m = 0 := by rw [Int.mul_comm q R]; omega
    by_cases hm : m = 0
    · subst hm; simp [Int.mul_comm]
    · have e4 : 0 < m := by omega
      have e5 : ¬ (R * q + m ≤ q * R) := fun h => hm (e3.1 h)
      simp [e4, e5]
  · have e3 : ¬ R * q + m ≤ b * R := by
      have : R * (b + 1) ≤ R * q := Int.mul_le_mul_of_nonneg_left (by omega) (by omega)
      rw [Int.mul_add, Int.mul_one] at this
      rw [Int.mul_comm b R]
      omega
    simp [h, e3]
theorem okQ_eq (R b : Int) (y : RM) : okQ R b y = okR R b y := by
  unfold okQ okR
  rw [Bool.not_or, ← decide_not]
  congr 2
  simp

theorem scanR_short (W : Nat) (R : Int) (xs : List RM) : ∀ rest : List RM, rest.length < W → scanR W R xs rest = ([], false, 0)
  | [], _ => rfl
  | y :: r, h => by
    rw [scanR, if_neg, scanR_short W R xs r (by simp at h; omega)]
    rintro ⟨h1, _⟩
    have := tw_le (okQ R y.bytes) ((y :: r).take W)
    rw [List.length_take] at this
    omega

theorem takeWhile_all {α : Type} (p : α → Bool) : ∀ l : List α, (∀ x ∈ l, p x = true) → l.takeWhile p = l
  | [], _ => rfl
  | x :: r, h => by rw [List.takeWhile_cons, if_pos (h x (by simp)), takeWhile_all p r (fun y hy => h y (by simp [hy]))]

theorem scans (W : Nat) (R : Int) (xs : List RM) (hR : 2 ≤ R) (hW : 2 ≤ W) : ∀ rest : List RM, Sorted rest → (∀ y ∈ rest, 0 ≤ y.bytes) → (rest.map (·.num)).Nodup → scanR W R xs rest = scanP W R xs rest
  | [], _, _, _ => rfl
  | y :: r, hs, hp, hn => by
    have hs' := hs
    unfold Sorted at hs'
    rw [List.pairwise_cons] at hs'
    have hn' := hn
    rw [List.map_cons, List.nodup_cons] at hn'
    have ih := scans W R xs hR hW r hs'.2 (fun z hz => hp z (by simp [hz])) hn'.2
    by_cases hl : (y :: r).length < W
    · rw [scanR_short W R xs _ hl, scanP, if_pos hl]
    · rw [scanP, if_neg hl]
      have hi : W - 1 < (y :: r).length := by omega
      have hlast : (((y :: r)[W - 1]?).getD y) = (y :: r)[W - 1] := by rw [List.getElem?_eq_getElem hi]; rfl
      rw [hlast]
      have htl : ((y :: r).take W).length = W := by rw [List.length_take]; omega
      have hz := List.getElem_mem hi
      by_cases hok : okR R y.bytes ((y :: r)[W - 1]) = true
      · have hall : ∀ z ∈ (y :: r).take W, okQ R y.bytes z = true := by
          intro z hz'
          obtain ⟨j, hj, rfl⟩ := List.mem_iff_getElem.1 hz'
          rw [List.getElem_take]
          rw [htl] at hj
          have hjl : j < (y :: r).length := by omega
          rw [okQ_eq, ok_iff R _ _ hR, decide_eq_true_eq]
          rw [ok_iff R _ _ hR, decide_eq_true_eq] at hok
          refine Int.le_trans ?_ hok
          by_cases e : j = W - 1
          · subst e; exact Int.le_refl _
          · have h2 := List.pairwise_iff_getElem.1 hs j (W - 1) hjl hi (by omega)
            rw [before_f] at h2
            omega
        have hT := takeWhile_all _ _ hall
        rw [if_neg (by rw [hok]; decide), scanR, hT]
        have hsub : ((y :: r).take W).Sublist (y :: r) := List.take_sublist _ _
        have hnt : (((y :: r).take W).map (·.num)).Nodup := List.Nodup.sublist (hsub.map _) hn
        have hpt : ∀ z ∈ (y :: r).take W, 0 ≤ z.bytes := fun z hz => hp z (List.mem_of_mem_take hz)
        rw [fits_eq _ hpt, htl, picked_eq _ _ hnt]
        by_cases hsum : sumA ((y :: r).take W) ≤ 16777216
        · rw [if_pos ⟨rfl, hsum⟩, if_neg (by simp [hsum])]
        · rw [if_neg (fun h => hsum h.2), if_pos (by simpa using hsum)]
          exact ih
      · have hok' : okR R y.bytes ((y :: r)[W - 1]) = false := by simpa using hok
        rw [if_pos hok', scanR, if_neg, ih]
        rintro ⟨h1, _⟩
        have hpre := List.prefix_iff_eq_take.1 (List.takeWhile_prefix (okQ R y.bytes) (l := (y :: r).take W))
        rw [h1] at hpre
        have hpre2 : ((y :: r).take W).takeWhile (okQ R y.bytes) = (y :: r).take W := hpre.trans (List.take_of_length_le (by omega))
        have hmem : (y :: r)[W - 1] ∈ ((y :: r).take W).takeWhile (okQ R y.bytes) := by
          rw [hpre2]
          exact List.mem_iff_getElem.2 ⟨W - 1, by omega, List.getElem_take⟩
        have hall : ∀ (l : List RM) (p : RM → Bool), ∀ z ∈ l.takeWhile p, p z = true := by
          intro l p
          induction l with
          | nil => intro z h; cases h
          | cons a l ihl =>
            intro z h
            rw [List.takeWhile_cons] at h
            split at h
            · next ha =>
              rcases List.mem_cons.1 h with rfl | h
              · exact ha
              · exact ihl z h
            · cases h
        have := hall _ _ _ hmem
        rw [okQ_eq, hok'] at this
        cases this
end Go.Proofs.Ytgeohmfbodlgeaa
