/-
  Numbers in bounds; the bytes of a string.
-/
import Derived.Test.YtjoaldaldcpfeaaGreatDoorProg
import Derived.Test.YtjoaldaldcpfeaaGreatDoorMem4
import Derived.BigQuiet
import Derived.Deep.QuietTactic
import Derived.Deep.DeepCutAuto
import Derived.Deep.CutRange
import Derived.Deep.CutBlock
namespace Go.Proofs.YtjoaldaldcpfeaaGreatDoor
open Go.RowKit

def intOf : Value → Int | .int _ n => n | _ => 0
def outB (n lo hi : Int) : Bool := decide (n < lo) || decide (hi < n)
theorem outB_f {n lo hi : Int} (h : lo ≤ n ∧ n ≤ hi) : outB n lo hi = false := by unfold outB; simp; omega
theorem outB_t {n lo hi : Int} (h : ¬ (lo ≤ n ∧ n ≤ hi)) : outB n lo hi = true := by unfold outB; simp; omega
theorem outB_iff {n lo hi : Int} : outB n lo hi = false ↔ lo ≤ n ∧ n ≤ hi := by unfold outB; simp
theorem out2_any (n lo hi : Int) (w : World) : Calls Tryz.prog 27 #[.int .i64 n, .int .i64 lo, .int .i64 hi] w fun e w' => e = .returned (.bool (outB n lo hi)) ∧ w' = w := by
  unfold outB
  go_enter Tryz.func27, Tryz.ntmps27
  go_wp2
  all_goals (go_ret; exact ⟨ret_bool (by simp [*]), rfl⟩)

theorem cout_any (n lo hi : Int) (w : World) : Calls Tryz.prog 30 #[.int .i64 n, .int .i64 lo, .int .i64 hi] w fun e w' => e = .returned (.bool (outB n lo hi)) ∧ w' = w := by
  unfold outB
  go_enter Tryz.func30, Tryz.ntmps30
  go_wp2
  all_goals (go_ret; exact ⟨ret_bool (by simp [*]), rfl⟩)

theorem sout_any (n lo hi : Int) (w : World) : Calls Tryz.prog 46 #[.int .i64 n, .int .i64 lo, .int .i64 hi] w fun e w' => e = .returned (.bool (outB n lo hi)) ∧ w' = w := by
  unfold outB
  go_enter Tryz.func46, Tryz.ntmps46
  go_wp2
  all_goals (go_ret; exact ⟨ret_bool (by simp [*]), rfl⟩)

theorem tout_any (n lo hi : Int) (w : World) : Calls Tryz.prog 58 #[.int .i64 n, .int .i64 lo, .int .i64 hi] w fun e w' => e = .returned (.bool (outB n lo hi)) ∧ w' = w := by
  unfold outB
  go_enter Tryz.func58, Tryz.ntmps58
  go_wp2
  all_goals (go_ret; exact ⟨ret_bool (by simp [*]), rfl⟩)

theorem jout_any (n lo hi : Int) (w : World) : Calls Tryz.prog 70 #[.int .i64 n, .int .i64 lo, .int .i64 hi] w fun e w' => e = .returned (.bool (outB n lo hi)) ∧ w' = w := by
  unfold outB
  go_enter Tryz.func70, Tryz.ntmps70
  go_wp2
  all_goals (go_ret; exact ⟨ret_bool (by simp [*]), rfl⟩)

theorem in19_any (n lo hi : Int) (w : World) : Calls Tryz.prog 12 #[.int .i64 n, .int .i64 lo, .int .i64 hi] w fun e w' => e = .returned (.bool (decide (lo ≤ n ∧ n ≤ hi))) ∧ w' = w := by
  by_cases h1 : lo ≤ n
  · by_cases h2 : n ≤ hi
    · go_enter Tryz.func12, Tryz.ntmps12
      go_wp2
      go_ret
      exact ⟨by simp [h1, h2], rfl⟩
    · go_enter Tryz.func12, Tryz.ntmps12
      go_wp2
      go_ret
      exact ⟨by simp [h2], rfl⟩
  · go_enter Tryz.func12, Tryz.ntmps12
    go_wp2
    go_ret
    exact ⟨by congr; simp; omega, rfl⟩

theorem rwithin_any (n lo hi : Int) (w : World) : Calls Tryz.prog 88 #[.int .i64 n, .int .i64 lo, .int .i64 hi] w fun e w' => e = .returned (.bool (decide (lo ≤ n ∧ n ≤ hi))) ∧ w' = w := by
  by_cases h1 : lo ≤ n
  · by_cases h2 : n ≤ hi
    · go_enter Tryz.func88, Tryz.ntmps88
      go_wp2
      go_ret
      exact ⟨by simp [h1, h2], rfl⟩
    · go_enter Tryz.func88, Tryz.ntmps88
      go_wp2
      go_ret
      exact ⟨by simp [h2], rfl⟩
  · go_enter Tryz.func88, Tryz.ntmps88
    go_wp2
    go_ret
    exact ⟨by congr; simp; omega, rfl⟩

theorem mwithin_any (n lo hi : Int) (w : World) : Calls Tryz.prog 157 #[.int .i64 n, .int .i64 lo, .int .i64 hi] w fun e w' => e = .returned (.bool (decide (lo ≤ n ∧ n ≤ hi))) ∧ w' = w := by
  by_cases h1 : lo ≤ n
  · by_cases h2 : n ≤ hi
    · go_enter Tryz.func157, Tryz.ntmps157
      go_wp2
      go_ret
      exact ⟨by simp [h1, h2], rfl⟩
    · go_enter Tryz.func157, Tryz.ntmps157
      go_wp2
      go_ret
      exact ⟨by simp [h2], rfl⟩
  · go_enter Tryz.func157, Tryz.ntmps157
    go_wp2
    go_ret
    exact ⟨by congr; simp; omega, rfl⟩

/-- The byte of a string at a place. -/
def chr (s : ByteArray) (k : Nat) : Int := ((s.data.toList[k]?.getD 0).toNat : Int)
theorem run_chr {P : Program} (t : TypeId) (s : ByteArray) (k : Nat) (h : P.underlying t = some .string) (hk : k < s.size) (w : World) : (Instr.index t (.string s) (.int .i64 k)).run P w = .ok (.int .u8 (chr s k)) w := by
  rw [run_index_string _ _ _ _ _ h]
  have hk2 : 0 ≤ (k : Int) ∧ (k : Int) < s.size := by omega
  rw [dif_pos hk2]
  have : chr s k = (s[k]'hk).toNat := by
    obtain ⟨⟨l⟩⟩ := s
    unfold chr
    have hk3 : k < l.length := hk
    simp [List.getElem?_eq_getElem hk3]
    rfl
  simp [this]
theorem chr_range (s : ByteArray) (k : Nat) : 0 ≤ chr s k ∧ chr s k ≤ 255 := by
  unfold chr
  have := (s.data.toList[k]?.getD 0).toNat_lt
  omega
end Go.Proofs.YtjoaldaldcpfeaaGreatDoor
