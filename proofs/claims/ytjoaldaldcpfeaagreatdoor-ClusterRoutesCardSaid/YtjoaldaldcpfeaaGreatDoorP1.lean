/-
  Rows of bytes and their order (no program): how they compare, which splits may be, which tablet has a row.
-/
import Derived.Lib.Bytealg
import Derived.Laws.BytesArg
import Derived.Laws.Strings
import Derived.Sort.Walk0
namespace Go.Proofs.YtjoaldaldcpfeaaGreatDoor

def u8 (xs : List Int) : List UInt8 := xs.map fun n => UInt8.ofNat n.toNat
theorem str_list (xs : List Int) : (strOfNums xs).toList = u8 xs := by rw [Lib.toList_data]; rfl
theorem str_data (xs : List Int) : (strOfNums xs).data.toList = u8 xs := rfl
theorem u8_len (xs : List Int) : (u8 xs).length = xs.length := List.length_map _

theorem cmp_neg : ∀ a b : List UInt8, (Lib.compareBytes a b < 0) ↔ a < b
  | [], [] => by simp [Lib.compareBytes]
  | [], _ :: _ => by simp [Lib.compareBytes]
  | _ :: _, [] => by simp [Lib.compareBytes]
  | x :: a, y :: b => by
    have ih := cmp_neg a b
    unfold Lib.compareBytes
    rw [List.cons_lt_cons_iff]
    by_cases h1 : x < y
    · simp [h1]
    · by_cases h2 : y < x
      · have : x ≠ y := fun e => UInt8.lt_irrefl y (by subst e; exact h2)
        simp [h1, h2, this]
      · have : x = y := UInt8.le_antisymm (UInt8.not_lt.1 h2) (UInt8.not_lt.1 h1)
        subst this
        simp [ih, UInt8.lt_irrefl]
theorem cmp_pos : ∀ a b : List UInt8, (0 < Lib.compareBytes a b) ↔ b < a
  | [], [] => by simp [Lib.compareBytes]
  | [], _ :: _ => by simp [Lib.compareBytes]
  | _ :: _, [] => by simp [Lib.compareBytes]
  | x :: a, y :: b => by
    have ih := cmp_pos a b
    unfold Lib.compareBytes
    rw [List.cons_lt_cons_iff]
    by_cases h1 : x < y
    · have h2 : ¬ y < x := fun h => UInt8.lt_irrefl x (UInt8.lt_trans h1 h)
      have : y ≠ x := fun e => UInt8.lt_irrefl y (by subst e; exact h1)
      simp [h1, h2, this]
    · by_cases h2 : y < x
      · simp [h1, h2]
      · have : x = y := UInt8.le_antisymm (UInt8.not_lt.1 h2) (UInt8.not_lt.1 h1)
        subst this
        simp [ih, UInt8.lt_irrefl]
/-- How two rows compare. -/
def cmp3 (a b : List Int) : Int := Lib.compareBytes (u8 a) (u8 b)
theorem cmp3_pos (a b : List Int) : 0 < cmp3 a b ↔ u8 b < u8 a := cmp_pos _ _
theorem leqB (a b : List UInt8) : (Op.bytesLess a b || a == b) = decide (¬ b < a) := by
  rw [bytesLess_eq]
  by_cases h : a < b
  · have : ¬ b < a := fun h2 => List.lt_irrefl a (List.lt_trans h h2)
    simp [h, this]
  · by_cases h2 : a = b
    · subst h2; simp [List.lt_irrefl]
    · have h3 : b < a := by
        rcases Std.lt_trichotomy a b with h4 | h4 | h4
        · exact absurd h4 h
        · exact absurd h4 h2
        · exact h4
      simp [h, h2, h3]

/-- Splits that may be. -/
structure splitsOK (ss : List (List Int)) : Prop where
  len : ss.length ≤ 7
  size : ∀ s ∈ ss, 1 ≤ s.length ∧ s.length ≤ 256
  rise : ∀ k p s, ss[k]? = some p → ss[k + 1]? = some s → u8 p < u8 s

theorem splits_lt {ss : List (List Int)} (h : splitsOK ss) : ∀ (d i : Nat) (p s : List Int), ss[i]? = some p → ss[i + 1 + d]? = some s → u8 p < u8 s
  | 0, i, p, s, h1, h2 => h.rise i p s h1 h2
  | d + 1, i, p, s, h1, h2 => by
    have hl : i + 1 + (d + 1) < ss.length := (List.getElem?_eq_some_iff.1 h2).1
    have h3 : ss[i + 1 + d]? = some ss[i + 1 + d] := List.getElem?_eq_getElem (by omega)
    exact List.lt_trans (splits_lt h d i p _ h1 h3) (h.rise (i + 1 + d) _ s h3 h2)

/-- Which tablet has a row: the first split that lies behind it. -/
structure TabOf (ss : List (List Int)) (row : List Int) (k : Nat) : Prop where
  le : k ≤ ss.length
  ahead : ∀ i s, i < k → ss[i]? = some s → ¬ u8 row < u8 s
  behind : ∀ i s, k ≤ i → ss[i]? = some s → u8 row < u8 s
theorem TabOf.one {ss : List (List Int)} {row : List Int} {j k : Nat} (h : TabOf ss row j) (h' : TabOf ss row k) : j = k := by
  rcases Nat.lt_trichotomy j k with h1 | h1 | h1
  · have hj : j < ss.length := by have := h'.le; omega
    have h3 : ss[j]? = some ss[j] := List.getElem?_eq_getElem hj
    exact absurd (h.behind j _ (Nat.le_refl _) h3) (h'.ahead j _ h1 h3)
  · exact h1
  · have hk : k < ss.length := by have := h.le; omega
    have h3 : ss[k]? = some ss[k] := List.getElem?_eq_getElem hk
    exact absurd (h'.behind k _ (Nat.le_refl _) h3) (h.ahead k _ h1 h3)
theorem lt_up {ss : List (List Int)} (h : splitsOK ss) {row : List Int} {i j : Nat} {p s : List Int} (hij : i ≤ j) (hi : ss[i]? = some p) (hj : ss[j]? = some s) (hr : u8 row < u8 p) : u8 row < u8 s := by
  rcases Nat.lt_or_ge i j with h1 | h1
  · have := splits_lt h (j - i - 1) i p s hi (by rwa [show i + 1 + (j - i - 1) = j by omega])
    exact List.lt_trans hr this
  · obtain rfl : i = j := by omega
    obtain rfl : p = s := Option.some.inj (hi.symm.trans hj)
    exact hr
/-- An empty row lies ahead of all splits. -/
theorem tab_nil {ss : List (List Int)} (h : splitsOK ss) : TabOf ss [] 0 :=
  ⟨Nat.zero_le _, fun i s hi => absurd hi (Nat.not_lt_zero _), fun i s _ hs => by
    have := (h.size s (List.mem_of_getElem? hs)).1
    cases s with
    | nil => simp at this
    | cons a s => simp [u8]⟩
end Go.Proofs.YtjoaldaldcpfeaaGreatDoor
