/-
  cluster: prefix, config.
-/
import Derived.Test.YtjoaldaldcpfeaaGreatDoorM1
import Derived.Test.YtjoaldaldcpfeaaGreatDoorD1
namespace Go.Proofs.YtjoaldaldcpfeaaGreatDoor
open Go.RowKit

def pre (n : Nat) : ByteArray := ({ data := #[116] } ++ { data := (Lib.decDigits n).toArray }) ++ { data := #[46] }
theorem pre_ok (n : Nat) (hn : n < 8) : PreOK (pre n) := by
  have : n = 0 ∨ n = 1 ∨ n = 2 ∨ n = 3 ∨ n = 4 ∨ n = 5 ∨ n = 6 ∨ n = 7 := by omega
  rcases this with rfl | rfl | rfl | rfl | rfl | rfl | rfl | rfl <;> exact ⟨by decide +kernel, by decide +kernel⟩

set_option maxRecDepth 100000 in
theorem prefix_any (n : Nat) (hn : n < 8) (w : World) : Calls Tryz.prog 19 #[.int .i64 n] w fun e w' => e = .returned (.string (pre n)) ∧ w' = w := by
  have hd : (Lib.decDigits n).length ≤ 1 := by
    have : n = 0 ∨ n = 1 ∨ n = 2 ∨ n = 3 ∨ n = 4 ∨ n = 5 ∨ n = 6 ∨ n = 7 := by omega
    rcases this with rfl | rfl | rfl | rfl | rfl | rfl | rfl | rfl <;> decide +kernel
  have h1 : ∀ W, (Op.stringOp .add { data := #[116] } { data := (Lib.decDigits n).toArray }).run Tryz.prog W = .ok (.string ({ data := #[116] } ++ { data := (Lib.decDigits n).toArray })) W := fun W => run_string_add_sum W _ _ (by simp only [ByteArray.size_mk', List.size_toArray]; simp; omega)
  have h2 : ∀ W, (Op.stringOp .add ({ data := #[116] } ++ { data := (Lib.decDigits n).toArray }) { data := #[46] }).run Tryz.prog W = .ok (.string (pre n)) W := fun W => run_string_add_sum W _ _ (by simp only [ByteArray.size_append', ByteArray.size_mk', List.size_toArray]; simp; omega)
  go_enter Tryz.func19, Tryz.ntmps19
  go_wp2_with (fail)
  refine (itoa_small n (by omega) w).mono ?_
  rintro e w1 ⟨rfl, hw1⟩
  obtain rfl := hw1.symm
  go_wp2_with (fail)
  go_ret
  exact ⟨rfl, rfl⟩
end Go.Proofs.YtjoaldaldcpfeaaGreatDoor
