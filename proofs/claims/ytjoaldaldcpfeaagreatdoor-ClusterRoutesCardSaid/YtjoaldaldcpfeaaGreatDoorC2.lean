/-
  Names of families: cell.named; the number of a family: strataref2.Family, cell.Family.
-/
import Derived.Test.YtjoaldaldcpfeaaGreatDoorC1
namespace Go.Proofs.YtjoaldaldcpfeaaGreatDoor
open Go.RowKit

theorem cell_cases (c : Int) : (97 ≤ c ∧ c ≤ 122) ∨ (¬ (97 ≤ c ∧ c ≤ 122) ∧ c < 48) ∨ (¬ (97 ≤ c ∧ c ≤ 122) ∧ ¬ c < 48 ∧ 57 < c ∧ c ≠ 95) ∨ (¬ (97 ≤ c ∧ c ≤ 122) ∧ ¬ c < 48 ∧ 57 < c ∧ c = 95) ∨ (¬ (97 ≤ c ∧ c ≤ 122) ∧ ¬ c < 48 ∧ ¬ 57 < c) := by omega

set_option maxRecDepth 100000 in
set_option maxHeartbeats 4000000 in
theorem name_cell (s : ByteArray) (w : World) : Calls Tryz.prog 31 #[.string s] w fun e w' => e = .returned (.bool (nameB s)) ∧ w' = w := by
  by_cases hs : 1 ≤ (s.size : Int) ∧ (s.size : Int) ≤ 32
  · have ho := outB_f hs
    have h0s : 0 < s.size := by omega
    have hi0 : ∀ W, (Instr.index 9 (.string s) (.int .i64 0)).run Tryz.prog W = .ok (.int .u8 (chr s 0)) W := fun W => run_chr (P := Tryz.prog) 9 s 0 Tryz.underlying9 h0s W
    by_cases hl : 97 ≤ chr s 0 ∧ chr s 0 ≤ 122
    · have hd : decide (97 ≤ chr s 0 ∧ chr s 0 ≤ 122) = true := by simpa using hl
      go_enter Tryz.func31, Tryz.ntmps31
      go_wp2_with (fail)
      refine (cout_any _ _ _ _).mono ?_
      rintro e w1 ⟨rfl, hw1⟩
      obtain rfl : w = w1 := hw1.symm
      go_wp2_with (fail)
      refine (letter_any _ _).mono ?_
      rintro e w1 ⟨rfl, hw1⟩
      obtain rfl : w = w1 := hw1.symm
      rw [hd]
      go_wp2_with (fail)
      go_loopw [16] (fun i wr => ∃ k : Nat, i = .int .i64 k ∧ k ≤ s.size ∧ wr = w ∧ Hid (∀ j, j < k → (97 ≤ chr s j ∧ chr s j ≤ 122) ∨ (j ≠ 0 ∧ (chr s j = 95 ∨ (48 ≤ chr s j ∧ chr s j ≤ 57))))) (fun i _ => (s.size - intOf i).toNat)
      case atStart => exact ⟨0, rfl, Nat.zero_le _, rfl, Lib.hid (fun j hj => absurd hj (Nat.not_lt_zero _))⟩
      case round =>
        obtain ⟨k, rfl, hk, rfl, hP⟩ := hrel
        by_cases hlt : k < s.size
        · have hi := fun W => run_chr (P := Tryz.prog) 9 s k Tryz.underlying9 hlt W
          have next : (97 ≤ chr s k ∧ chr s k ≤ 122) ∨ (k ≠ 0 ∧ (chr s k = 95 ∨ (48 ≤ chr s k ∧ chr s k ≤ 57))) → Hid (∀ j, j < k + 1 → (97 ≤ chr s j ∧ chr s j ≤ 122) ∨ (j ≠ 0 ∧ (chr s j = 95 ∨ (48 ≤ chr s j ∧ chr s j ≤ 57)))) := fun h => Lib.hid (fun j hj => by
            rcases Nat.lt_succ_iff_lt_or_eq.1 hj with h1 | rfl
            · exact hP.out j h1
            · exact h)
          have HN := Lib.hid next
          have HF := Lib.hid (show ¬ ((97 ≤ chr s k ∧ chr s k ≤ 122) ∨ (k ≠ 0 ∧ (chr s k = 95 ∨ (48 ≤ chr s k ∧ chr s k ≤ 57)))) → ¬ nameOK s from fun h hn => h (hn.2.2 k hlt))
          have hk0 : ¬ (97 ≤ chr s k ∧ chr s k ≤ 122) → k ≠ 0 := fun h e => h (by rw [e]; exact hl)
          have HK := Lib.hid hk0
          clear next hk0 hi0
          rcases cell_cases (chr s k) with h1 | ⟨h1, h2⟩ | ⟨h1, h2, h3, h4⟩ | ⟨h1, h2, h3, h4⟩ | ⟨h1, h2, h3⟩
          case inl =>
            have hd2 : decide (97 ≤ chr s k ∧ chr s k ≤ 122) = true := by simpa using h1
            go_wp2_with (fail)
            refine (letter_any _ _).mono ?_
            rintro e w1 ⟨rfl, hw1⟩
            obtain rfl := hw1.symm
            rw [hd2]
            go_wp2_with (fail)
            exact ⟨⟨k + 1, rfl, by omega, by simp, HN.out (.inl h1)⟩, by simp [intOf]; omega⟩
          case inr.inl =>
            have hd2 : decide (97 ≤ chr s k ∧ chr s k ≤ 122) = false := by simpa using h1
            have e2 : (chr s k != 95) = true := by rw [bne_iff_ne]; omega
            go_wp2_with (fail)
            refine (letter_any _ _).mono ?_
            rintro e w1 ⟨rfl, hw1⟩
            obtain rfl := hw1.symm
            rw [hd2]
            go_wp2_with (fail)
            go_ret
            exact ⟨ret_bool (nameB_f (HF.out (by omega))).symm, by simp⟩
          case inr.inr.inl =>
            have hd2 : decide (97 ≤ chr s k ∧ chr s k ≤ 122) = false := by simpa using h1
            have e2 : (chr s k != 95) = true := by rw [bne_iff_ne]; omega
            go_wp2_with (fail)
            refine (letter_any _ _).mono ?_
            rintro e w1 ⟨rfl, hw1⟩
            obtain rfl := hw1.symm
            rw [hd2]
            go_wp2_with (fail)
            go_ret
            exact ⟨ret_bool (nameB_f (HF.out (by omega))).symm, by simp⟩
          case inr.inr.inr.inl =>
            have hd2 : decide (97 ≤ chr s k ∧ chr s k ≤ 122) = false := by simpa using h1
            have e2 : (chr s k != 95) = false := by rw [bne_eq_false_iff_eq]; exact h4
            have H4 := Lib.hid h4
            clear h4
            go_wp2_with (fail)
            refine (letter_any _ _).mono ?_
            rintro e w1 ⟨rfl, hw1⟩
            obtain rfl := hw1.symm
            rw [hd2]
            go_wp2_with (fail)
            exact ⟨⟨k + 1, rfl, by omega, by simp, HN.out (.inr ⟨HK.out h1, .inl H4.out⟩)⟩, by simp [intOf]; omega⟩
          case inr.inr.inr.inr =>
            have hd2 : decide (97 ≤ chr s k ∧ chr s k ≤ 122) = false := by simpa using h1
            go_wp2_with (fail)
            refine (letter_any _ _).mono ?_
            rintro e w1 ⟨rfl, hw1⟩
            obtain rfl := hw1.symm
            rw [hd2]
            go_wp2_with (fail)
            exact ⟨⟨k + 1, rfl, by omega, by simp, HN.out (.inr ⟨HK.out h1, .inr ⟨by omega, by omega⟩⟩)⟩, by simp [intOf]; omega⟩
        · clear hi0
          go_wp2_with (fail)
          go_ret
          have hk2 : k = s.size := by omega
          subst hk2
          exact ⟨ret_bool (nameB_t ⟨by omega, by omega, hP.out⟩).symm, by simp⟩
    · have hd : decide (97 ≤ chr s 0 ∧ chr s 0 ≤ 122) = false := by simpa using hl
      go_enter Tryz.func31, Tryz.ntmps31
      go_wp2_with (fail)
      refine (cout_any _ _ _ _).mono ?_
      rintro e w1 ⟨rfl, hw1⟩
      obtain rfl : w = w1 := hw1.symm
      go_wp2_with (fail)
      refine (letter_any _ _).mono ?_
      rintro e w1 ⟨rfl, hw1⟩
      obtain rfl : w = w1 := hw1.symm
      rw [hd]
      go_wp2_with (fail)
      go_ret
      exact ⟨ret_bool (nameB_f (fun hn => hl (by rcases hn.2.2 0 h0s with h | h; exact h; exact absurd rfl h.1))).symm, by simp⟩
  · have ho := outB_t hs
    go_enter Tryz.func31, Tryz.ntmps31
    go_wp2_with (fail)
    refine (cout_any _ _ _ _).mono ?_
    rintro e w1 ⟨rfl, hw1⟩
    obtain rfl : w = w1 := hw1.symm
    go_wp2_with (fail)
    go_ret
    exact ⟨ret_bool (nameB_f (fun hn => hs ⟨by have := hn.1; omega, by have := hn.2.1; omega⟩)).symm, by simp⟩

/-! ### families -/
structure FM where
  name : ByteArray
  max : Int
  ttl : Int
def encFM (f : FM) : List Value := [.string f.name, .int .i64 f.max, .int .i64 f.ttl]
theorem len_FM (x : FM) : (encFM x).length = 3 := rfl
theorem one_FM (x : FM) : ∀ u ∈ encFM x, u.oneCell' = true := by
  intro u hu
  simp only [encFM, List.mem_cons, List.not_mem_nil, or_false] at hu
  rcases hu with rfl | rfl | rfl <;> rfl
theorem fam_at {w : World} {B k : Nat} {A : Option Addr} {fs : List FM} {f : FM} (h : Row encFM 3 w B A fs) (hk : fs[k]? = some f) :
    ∃ b o, A = some ⟨b, o, none⟩ ∧ b < B ∧ w.cell? ⟨b, o + k * 3, none⟩ = some (.string f.name) ∧ w.cell? ⟨b, o + k * 3 + 1, none⟩ = some (.int .i64 f.max) ∧ w.cell? ⟨b, o + k * 3 + 2, none⟩ = some (.int .i64 f.ttl) := by
  obtain ⟨b, o, hA, hb, hc⟩ := h.at_ hk
  exact ⟨b, o, hA, hb, hc 0 _ rfl, hc 1 _ rfl, hc 2 _ rfl⟩

/-- The number of a family, or -1. -/
def famIdx (s : ByteArray) : List FM → Nat → Int
  | [], _ => -1
  | f :: r, k => if f.name.toList == s.toList then (k : Int) else famIdx s r (k + 1)
theorem famIdx_step {s : ByteArray} {fs : List FM} {f : FM} {k : Nat} (hk : fs[k]? = some f) : famIdx s (fs.drop k) k = if f.name.toList == s.toList then (k : Int) else famIdx s (fs.drop (k + 1)) (k + 1) := by
  obtain ⟨hlt, rfl⟩ := List.getElem?_eq_some_iff.1 hk
  rw [List.drop_eq_getElem_cons hlt]
  rfl

set_option maxRecDepth 100000 in
set_option maxHeartbeats 4000000 in
theorem family_ref (A : Option Addr) (c : Nat) (fs : List FM) (s : ByteArray) (w : World) (h : Row encFM 3 w w.heap.size A fs) (hl : fs.length ≤ 100000) :
    Calls Tryz.prog 29 #[.agg #[.slice A fs.length c], .string s] w fun e w' => e = .returned (.int .i64 (famIdx s fs 0)) ∧ Below w.heap.size w w' := by
  have hbx := World.alloc_at w (.cells #[.slice A fs.length c] 24)
  have hb := (Below.refl w.heap.size w).alloc (Nat.le_refl _) (.cells #[.slice A fs.length c] 24)
  have h1 := h.below hb
  have hlx := block_lt hbx
  have HB := Lib.hid hb
  have H1 := Lib.hid h1
  have hc0 : (w.alloc (.cells #[.slice A fs.length c] 24)).cell? ⟨w.heap.size, 0, none⟩ = some (.slice A fs.length c) := cell_block hbx 0 _ rfl
  clear hbx hb h1
  go_enter Tryz.func29, Tryz.ntmps29
  go_wp2_with (fail)
  generalize w.alloc (.cells #[.slice A fs.length c] 24) = W at HB H1 hc0 hlx ⊢
  go_loopw [5] (fun i wr => ∃ k : Nat, i = .int .i64 k ∧ k ≤ fs.length ∧ wr = W ∧ Hid (famIdx s fs 0 = famIdx s (fs.drop k) k)) (fun i _ => (fs.length - intOf i).toNat)
  case atStart => exact ⟨0, rfl, Nat.zero_le _, rfl, Lib.hid (by simp)⟩
  case round =>
    obtain ⟨k, rfl, hk, rfl, hP⟩ := hrel
    by_cases hlt : k < fs.length
    · obtain ⟨f, hf⟩ : ∃ f, fs[k]? = some f := ⟨_, List.getElem?_eq_getElem hlt⟩
      have hst := famIdx_step (s := s) hf
      obtain ⟨b, o, rfl, hbl, d0, d1, d2⟩ := fam_at H1.out hf
      have hbl2 : b < wr.heap.size := by have := HB.out.size; omega
      by_cases he : (f.name.toList == s.toList) = true
      · have HE := Lib.hid (show famIdx s fs 0 = k by rw [hP.out, hst, if_pos he])
        clear hst hP hf
        go_wp2_with (fail)
        go_ret
        exact ⟨ret_int HE.out.symm, HB.out⟩
      · have hef : (f.name.toList == s.toList) = false := by simpa using he
        have HE := Lib.hid (show famIdx s fs 0 = famIdx s (fs.drop (k + 1)) (k + 1) by rw [hP.out, hst, if_neg he])
        clear hst hP hf he
        go_wp2_with (fail)
        exact ⟨⟨k + 1, rfl, by omega, by simp, HE⟩, by simp [intOf]; omega⟩
    · have HE := Lib.hid (show famIdx s fs 0 = -1 by rw [hP.out, List.drop_of_length_le (by omega)]; rfl)
      clear hP
      go_wp2_with (fail)
      go_ret
      exact ⟨ret_int HE.out.symm, HB.out⟩

set_option maxRecDepth 100000 in
set_option maxHeartbeats 4000000 in
theorem family_cell (A : Option Addr) (c : Nat) (fs : List FM) (s : ByteArray) (w : World) (h : Row encFM 3 w w.heap.size A fs) (hl : fs.length ≤ 100000) :
    Calls Tryz.prog 32 #[.agg #[.slice A fs.length c], .string s] w fun e w' => e = .returned (.int .i64 (famIdx s fs 0)) ∧ Below w.heap.size w w' := by
  have hbx := World.alloc_at w (.cells #[.slice A fs.length c] 24)
  have hb := (Below.refl w.heap.size w).alloc (Nat.le_refl _) (.cells #[.slice A fs.length c] 24)
  have hlx := block_lt hbx
  have HB := Lib.hid hb
  have H1 := Lib.hid h
  have hc0 : (w.alloc (.cells #[.slice A fs.length c] 24)).cell? ⟨w.heap.size, 0, none⟩ = some (.slice A fs.length c) := cell_block hbx 0 _ rfl
  clear hbx hb h
  go_enter Tryz.func32, Tryz.ntmps32
  go_wp2_with (fail)
  generalize w.alloc (.cells #[.slice A fs.length c] 24) = W at HB hc0 hlx ⊢
  clear hc0 hlx
  go_loopw [10] (fun i wr => ∃ k : Nat, i = .int .i64 k ∧ k ≤ fs.length ∧ Below w.heap.size w wr ∧ Hid (famIdx s fs 0 = famIdx s (fs.drop k) k)) (fun i _ => (fs.length - intOf i).toNat)
  case atStart => exact ⟨0, rfl, Nat.zero_le _, HB.out, Lib.hid (by simp)⟩
  case round =>
    obtain ⟨k, rfl, hk, hbr, hP⟩ := hrel
    have HBR := Lib.hid hbr
    by_cases hlt : k < fs.length
    · obtain ⟨f, hf⟩ : ∃ f, fs[k]? = some f := ⟨_, List.getElem?_eq_getElem hlt⟩
      have hst := famIdx_step (s := s) hf
      obtain ⟨b, o, rfl, hbl, d0, d1, d2⟩ := fam_at (H1.out.below hbr) hf
      have hbl2 : b < wr.heap.size := by have := hbr.size; omega
      clear hbr
      by_cases he : (f.name.toList == s.toList) = true
      · have HE := Lib.hid (show famIdx s fs 0 = k by rw [hP.out, hst, if_pos he])
        clear hst hP hf
        go_wp2_with (fail)
        go_ret
        exact ⟨ret_int HE.out.symm, HBR.out.alloc HBR.out.size _⟩
      · have hef : (f.name.toList == s.toList) = false := by simpa using he
        have HE := Lib.hid (show famIdx s fs 0 = famIdx s (fs.drop (k + 1)) (k + 1) by rw [hP.out, hst, if_neg he])
        clear hst hP hf he
        go_wp2_with (fail)
        exact ⟨⟨k + 1, rfl, by omega, HBR.out.alloc HBR.out.size _, HE⟩, by simp [intOf]; omega⟩
    · have HE := Lib.hid (show famIdx s fs 0 = -1 by rw [hP.out, List.drop_of_length_le (by omega)]; rfl)
      clear hP hbr
      go_wp2_with (fail)
      go_ret
      exact ⟨ret_int HE.out.symm, HBR.out⟩
end Go.Proofs.YtjoaldaldcpfeaaGreatDoor
