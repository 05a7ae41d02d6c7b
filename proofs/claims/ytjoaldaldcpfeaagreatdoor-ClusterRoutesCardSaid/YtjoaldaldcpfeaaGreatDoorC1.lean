/-
  Names of families: strataref2.name, cell.named.
-/
import Derived.Test.YtjoaldaldcpfeaaGreatDoorC0
namespace Go.Proofs.YtjoaldaldcpfeaaGreatDoor
open Go.RowKit

/-- May a family have that name? -/
def nameOK (s : ByteArray) : Prop := 1 ≤ s.size ∧ s.size ≤ 32 ∧ ∀ k, k < s.size → (97 ≤ chr s k ∧ chr s k ≤ 122) ∨ (k ≠ 0 ∧ (chr s k = 95 ∨ (48 ≤ chr s k ∧ chr s k ≤ 57)))

open Classical in
noncomputable def nameB (s : ByteArray) : Bool := decide (nameOK s)
theorem nameB_t {s : ByteArray} (h : nameOK s) : nameB s = true := by unfold nameB; simpa using h
theorem nameB_f {s : ByteArray} (h : ¬ nameOK s) : nameB s = false := by unfold nameB; simpa using h
theorem chr_get (s : ByteArray) (k : Nat) (hk : k < s.size) : chr s k = ((s[k]'hk).toNat : Int) := by
  obtain ⟨⟨l⟩⟩ := s
  unfold chr
  have hk3 : k < l.length := hk
  simp [List.getElem?_eq_getElem hk3]
  rfl

theorem letter_any (c : Int) (w : World) : Calls Tryz.prog 45 #[.int .u8 c] w fun e w' => e = .returned (.bool (decide (97 ≤ c ∧ c ≤ 122))) ∧ w' = w := by
  by_cases h1 : 97 ≤ c
  · by_cases h2 : c ≤ 122
    · go_enter Tryz.func45, Tryz.ntmps45
      go_wp2
      go_ret
      exact ⟨by simp [h1, h2], rfl⟩
    · go_enter Tryz.func45, Tryz.ntmps45
      go_wp2
      go_ret
      exact ⟨by simp [h2], rfl⟩
  · go_enter Tryz.func45, Tryz.ntmps45
    go_wp2
    go_ret
    exact ⟨by congr; simp; omega, rfl⟩

theorem step_cases (c : Int) (k : Nat) : (97 ≤ c ∧ c ≤ 122) ∨ (¬ 97 ≤ c ∧ k = 0) ∨ (¬ 97 ≤ c ∧ k ≠ 0 ∧ c = 95) ∨ (¬ 97 ≤ c ∧ k ≠ 0 ∧ c ≠ 95 ∧ c < 48) ∨ (¬ 97 ≤ c ∧ k ≠ 0 ∧ c ≠ 95 ∧ ¬ c < 48 ∧ 57 < c) ∨ (¬ 97 ≤ c ∧ k ≠ 0 ∧ c ≠ 95 ∧ ¬ c < 48 ∧ ¬ 57 < c) ∨ (97 ≤ c ∧ ¬ c ≤ 122 ∧ k = 0) ∨ (97 ≤ c ∧ ¬ c ≤ 122 ∧ k ≠ 0 ∧ c ≠ 95 ∧ ¬ c < 48 ∧ 57 < c) := by omega

set_option maxRecDepth 100000 in
set_option maxHeartbeats 4000000 in
theorem name_ref (s : ByteArray) (w : World) : Calls Tryz.prog 28 #[.string s] w fun e w' => e = .returned (.bool (nameB s)) ∧ w' = w := by
  by_cases hs : 1 ≤ (s.size : Int) ∧ (s.size : Int) ≤ 32
  · have ho := outB_f hs
    go_enter Tryz.func28, Tryz.ntmps28
    go_wp2_with (fail)
    refine (out2_any _ _ _ _).mono ?_
    rintro e w1 ⟨rfl, hw1⟩
    obtain rfl : w = w1 := hw1.symm
    go_wp2_with (fail)
    go_loopw [3] (fun i wr => ∃ k : Nat, i = .int .i64 k ∧ k ≤ s.size ∧ wr = w ∧ Hid (∀ j, j < k → (97 ≤ chr s j ∧ chr s j ≤ 122) ∨ (j ≠ 0 ∧ (chr s j = 95 ∨ (48 ≤ chr s j ∧ chr s j ≤ 57))))) (fun i _ => (s.size - intOf i).toNat)
    case atStart => exact ⟨0, rfl, Nat.zero_le _, rfl, Lib.hid (fun j hj => absurd hj (Nat.not_lt_zero _))⟩
    case round =>
      obtain ⟨k, rfl, hk, rfl, hP⟩ := hrel
      by_cases hlt : k < s.size
      · have hi := fun W => run_chr (P := Tryz.prog) 9 s k Tryz.underlying9 hlt W
        have next : (97 ≤ chr s k ∧ chr s k ≤ 122) ∨ (k ≠ 0 ∧ (chr s k = 95 ∨ (48 ≤ chr s k ∧ chr s k ≤ 57))) → Hid (∀ j, j < k + 1 → (97 ≤ chr s j ∧ chr s j ≤ 122) ∨ (j ≠ 0 ∧ (chr s j = 95 ∨ (48 ≤ chr s j ∧ chr s j ≤ 57)))) := fun h => Lib.hid (fun j hj => by
          rcases Nat.lt_succ_iff_lt_or_eq.1 hj with h1 | rfl
          · exact hP.out j h1
          · exact h)
        have HN := Lib.hid next
        have HF := Lib.hid (show ¬ ((97 ≤ chr s k ∧ chr s k ≤ 122) ∨ (k ≠ 0 ∧ (chr s k = 95 ∨ (48 ≤ chr s k ∧ chr s k ≤ 57)))) → ¬ nameOK s from fun h hn => h (hn.2.2 k hlt))
        clear next
        rcases step_cases (chr s k) k with ⟨h1, h2⟩ | ⟨h1, h2⟩ | ⟨h1, h2, h3⟩ | ⟨h1, h2, h3, h4⟩ | ⟨h1, h2, h3, h4, h5⟩ | ⟨h1, h2, h3, h4, h5⟩ | ⟨h1, h2, h3⟩ | ⟨h1, h2, h3, h4, h5, h6⟩
        case inl =>
          go_wp2_with (fail)
          exact ⟨⟨k + 1, rfl, by omega, by simp, HN.out (.inl ⟨h1, h2⟩)⟩, by simp [intOf]; omega⟩
        case inr.inl =>
          subst h2
          have hi0 : ∀ W, (Instr.index 9 (.string s) (.int .i64 0)).run Tryz.prog W = .ok (.int .u8 (chr s 0)) W := fun W => hi W
          clear hi
          go_wp2_with (fail)
          go_ret
          exact ⟨ret_bool (nameB_f (HF.out (by omega))).symm, by simp⟩
        case inr.inr.inl =>
          have e1 : ((k : Int) == 0) = false := by rw [beq_eq_false_iff_ne]; omega
          have e2 : (chr s k != 95) = false := by rw [bne_eq_false_iff_eq]; exact h3
          go_wp2_with (fail)
          exact ⟨⟨k + 1, rfl, by omega, by simp, HN.out (.inr ⟨h2, by omega⟩)⟩, by simp [intOf]; omega⟩
        case inr.inr.inr.inl =>
          have e1 : ((k : Int) == 0) = false := by rw [beq_eq_false_iff_ne]; omega
          have e2 : (chr s k != 95) = true := by rw [bne_iff_ne]; exact h3
          go_wp2_with (fail)
          go_ret
          exact ⟨ret_bool (nameB_f (HF.out (by omega))).symm, by simp⟩
        case inr.inr.inr.inr.inl =>
          have e1 : ((k : Int) == 0) = false := by rw [beq_eq_false_iff_ne]; omega
          have e2 : (chr s k != 95) = true := by rw [bne_iff_ne]; exact h3
          go_wp2_with (fail)
          go_ret
          exact ⟨ret_bool (nameB_f (HF.out (by omega))).symm, by simp⟩
        case inr.inr.inr.inr.inr.inl =>
          have e1 : ((k : Int) == 0) = false := by rw [beq_eq_false_iff_ne]; omega
          have e2 : (chr s k != 95) = true := by rw [bne_iff_ne]; exact h3
          go_wp2_with (fail)
          exact ⟨⟨k + 1, rfl, by omega, by simp, HN.out (.inr ⟨h2, by omega⟩)⟩, by simp [intOf]; omega⟩
        case inr.inr.inr.inr.inr.inr.inl =>
          subst h3
          have hi0 : ∀ W, (Instr.index 9 (.string s) (.int .i64 0)).run Tryz.prog W = .ok (.int .u8 (chr s 0)) W := fun W => hi W
          clear hi
          go_wp2_with (fail)
          go_ret
          exact ⟨ret_bool (nameB_f (HF.out (by omega))).symm, by simp⟩
        case inr.inr.inr.inr.inr.inr.inr =>
          have e1 : ((k : Int) == 0) = false := by rw [beq_eq_false_iff_ne]; omega
          have e2 : (chr s k != 95) = true := by rw [bne_iff_ne]; exact h4
          go_wp2_with (fail)
          go_ret
          exact ⟨ret_bool (nameB_f (HF.out (by omega))).symm, by simp⟩
      · go_wp2_with (fail)
        go_ret
        have hk2 : k = s.size := by omega
        subst hk2
        exact ⟨ret_bool (nameB_t ⟨by omega, by omega, hP.out⟩).symm, by simp⟩
  · have ho := outB_t hs
    go_enter Tryz.func28, Tryz.ntmps28
    go_wp2_with (fail)
    refine (out2_any _ _ _ _).mono ?_
    rintro e w1 ⟨rfl, hw1⟩
    obtain rfl : w = w1 := hw1.symm
    go_wp2_with (fail)
    go_ret
    exact ⟨ret_bool (nameB_f (fun hn => hs ⟨by have := hn.1; omega, by have := hn.2.1; omega⟩)).symm, by simp⟩
end Go.Proofs.YtjoaldaldcpfeaaGreatDoor
