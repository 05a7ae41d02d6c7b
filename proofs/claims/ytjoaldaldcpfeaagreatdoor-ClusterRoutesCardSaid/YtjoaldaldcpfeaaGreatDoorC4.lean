/-
  A fresh disk: New, Down, names that may be, look, Size; what it lists; Delete of what is not there.
-/
import Derived.Test.YtjoaldaldcpfeaaGreatDoorLaid
import Derived.Test.YtjoaldaldcpfeaaGreatDoorC0
import Derived.Maps.Keyed
namespace Go.Proofs.YtjoaldaldcpfeaaGreatDoor
open Go.RowKit

/-! ### what the library does -/
theorem itoa_small (i : Nat) (hi : i < 100) (w : World) : Calls Tryz.prog 43 #[.int .i64 i] w fun e w' => e = .returned (.string ⟨(Lib.decDigits i).toArray⟩) ∧ w' = w := Any.strconv_Itoa_small Tryz.laysItoa i hi w
theorem bits_len (x : Int) (w : World) (h0 : 0 ≤ x) (h1 : x ≤ 18446744073709551615) : Calls Tryz.prog 87 #[.int .u64 x] w fun e w' => e = .returned (.int .i64 (Lib.bitLen x.toNat)) ∧ w' = w := Any.bits_Len Tryz.laysLen x w h0 h1
theorem index_byte (s : ByteArray) (c : Int) (w : World) : Calls Tryz.prog 211 #[.string s, .int .u8 c] w fun e w' => e = .returned (.int .i64 (Lib.indexByte s.data.toList c.toNat.toUInt8)) ∧ w' = w := Any.strings_IndexByte Tryz.laysIdx s c w
theorem contains_rune (s : ByteArray) (r : Int) (w : World) (h0 : 0 ≤ r) (h1 : r < 128) : Calls Tryz.prog 108 #[.string s, .int .i32 r] w fun e w' => e = .returned (.bool (decide (0 ≤ Lib.indexByte s.data.toList r.toNat.toUInt8))) ∧ w' = w := Any.strings_ContainsRune_ascii Tryz.laysCR s r w h0 h1

/-! ### names -/
/-- A sign that a file's name may bear, which is no letter and no digit. -/
def markC (c : Int) : Prop := c = 46 ∨ c = 45 ∨ c = 95 ∨ c = 47
def charOK (c : Int) : Prop := (97 ≤ c ∧ c ≤ 122) ∨ (65 ≤ c ∧ c ≤ 90) ∨ (48 ≤ c ∧ c ≤ 57) ∨ markC c
theorem char_cases {c : Int} (h : charOK c) : (97 ≤ c ∧ c ≤ 122) ∨ (¬ 97 ≤ c ∧ 65 ≤ c ∧ c ≤ 90) ∨ (¬ 97 ≤ c ∧ ¬ 65 ≤ c ∧ 48 ≤ c ∧ c ≤ 57) ∨ (¬ 97 ≤ c ∧ markC c) := by
  unfold charOK at h
  have : markC c → ¬ 97 ≤ c := by unfold markC; omega
  rcases h with h | h | h | h
  · exact .inl h
  · exact .inr (.inl (by omega))
  · exact .inr (.inr (.inl (by omega)))
  · exact .inr (.inr (.inr ⟨this h, h⟩))
def marks : ByteArray := { data := #[46, 45, 95, 47] }
theorem mark_idx {c : Int} (h : markC c) : 0 ≤ Lib.indexByte marks.data.toList c.toNat.toUInt8 := by
  rcases h with rfl | rfl | rfl | rfl <;> decide
structure PathOK (s : ByteArray) (most : Nat) : Prop where
  one : 1 ≤ s.size
  most : s.size ≤ most
  chars : ∀ k, k < s.size → charOK (chr s k)

set_option maxRecDepth 100000 in
set_option maxHeartbeats 4000000 in
theorem named_yes (s : ByteArray) (w : World) (h : PathOK s 64) : Calls Tryz.prog 170 #[.string s] w fun e w' => e = .returned (.bool true) ∧ w' = w := by
  have h1 : ¬ ((s.size : Int) < 1) := by have := h.one; omega
  have h2 : ¬ (64 < (s.size : Int)) := by have := h.most; omega
  have HC := Lib.hid h.chars
  clear h
  go_enter Tryz.func170, Tryz.ntmps170
  go_wp2_with (fail)
  go_loopw [16] (fun i wr => ∃ k : Nat, i = .int .i64 k ∧ k ≤ s.size ∧ wr = w) (fun i _ => (s.size - intOf i).toNat)
  case atStart => exact ⟨0, rfl, Nat.zero_le _, rfl⟩
  case round =>
    obtain ⟨k, rfl, hk, rfl⟩ := hrel
    by_cases hlt : k < s.size
    · have hi := fun W => run_chr (P := Tryz.prog) 9 s k Tryz.underlying9 hlt W
      have hc := HC.out k hlt
      rcases char_cases hc with ⟨a1, a2⟩ | ⟨a1, a2, a3⟩ | ⟨a1, a2, a3, a4⟩ | ⟨a1, a2⟩
      · clear hc
        go_wp2_with (fail)
        exact ⟨⟨k + 1, rfl, by omega, by simp⟩, by simp [intOf]; omega⟩
      · clear hc
        go_wp2_with (fail)
        exact ⟨⟨k + 1, rfl, by omega, by simp⟩, by simp [intOf]; omega⟩
      · clear hc
        go_wp2_with (fail)
        exact ⟨⟨k + 1, rfl, by omega, by simp⟩, by simp [intOf]; omega⟩
      · have hm := Lib.hid (mark_idx a2)
        have b1 : 65 ≤ chr s k → ¬ chr s k ≤ 90 := by unfold markC at a2; omega
        have b2 : ¬ (65 ≤ chr s k ∧ chr s k ≤ 90) := by omega
        have HM := Lib.hid a2
        clear hc a2
        by_cases c1 : 65 ≤ chr s k
        · have c2 := b1 c1
          by_cases c3 : 48 ≤ chr s k
          · have c4 : ¬ chr s k ≤ 57 := by omega
            clear b1 b2
            go_wp2_with (fail)
            refine (index_byte _ _ _).mono ?_
            rintro e w1 ⟨rfl, hw1⟩
            obtain rfl := hw1.symm
            have hm2 := hm.out
            unfold marks at hm2
            have hm3 : ¬ (Lib.indexByte [46, 45, 95, 47] (chr s k).toNat.toUInt8 < 0) := by simpa using hm2
            simp only []
            generalize Lib.indexByte _ (chr s k).toNat.toUInt8 = v at hm2 hm3 ⊢
            go_wp2_with (fail)
            exact ⟨⟨k + 1, rfl, by omega, by simp⟩, by simp [intOf]; omega⟩
          · omega
        · by_cases c3 : 48 ≤ chr s k
          · have c4 : ¬ chr s k ≤ 57 := by have := HM.out; unfold markC at this; omega
            clear b1 b2
            go_wp2_with (fail)
            refine (index_byte _ _ _).mono ?_
            rintro e w1 ⟨rfl, hw1⟩
            obtain rfl := hw1.symm
            have hm2 := hm.out
            unfold marks at hm2
            generalize Lib.indexByte _ (chr s k).toNat.toUInt8 = v at hm2 ⊢
            go_wp2_with (fail)
            exact ⟨⟨k + 1, rfl, by omega, by simp⟩, by simp [intOf]; omega⟩
          · clear b1 b2
            go_wp2_with (fail)
            refine (index_byte _ _ _).mono ?_
            rintro e w1 ⟨rfl, hw1⟩
            obtain rfl := hw1.symm
            have hm2 := hm.out
            unfold marks at hm2
            generalize Lib.indexByte _ (chr s k).toNat.toUInt8 = v at hm2 ⊢
            go_wp2_with (fail)
            exact ⟨⟨k + 1, rfl, by omega, by simp⟩, by simp [intOf]; omega⟩
    · go_wp2_with (fail)
      go_ret
      exact ⟨rfl, by simp⟩
end Go.Proofs.YtjoaldaldcpfeaaGreatDoor
