/-
  What squash.Pick and strataref12.Pick return, in one form: 'pickS'.
-/
import Derived.Test.YtgeohmfbodlgeaaP1
namespace Go.Proofs.Ytgeohmfbodlgeaa
open Go.RowKit

def badS (W R M : Int) : Prop := W < 2 ∨ 16 < W ∨ R < 2 ∨ 64 < R ∨ M < W ∨ 64 < M
instance (W R M : Int) : Decidable (badS W R M) := by unfold badS; infer_instance
def pickS (W R M : Int) (xs : List RM) : List Int × Bool × Int :=
  if badS W R M then ([], false, 124) else if 64 < xs.length then ([], false, 120) else refPick W.toNat R M xs

/-- What a call that answers so leaves. -/
def Picks (w : World) (s : List Int × Bool × Int) (e : Ending) (w' : World) : Prop :=
  ∃ v, e = .returned (.tuple #[v, .bool s.2.1, .int .i64 s.2.2]) ∧ Own encI 1 3 w' w.heap.size v s.1 ∧ Below w.heap.size w w'

theorem outB_f {n lo hi : Int} (h : lo ≤ n ∧ n ≤ hi) : outB n lo hi = false := by
  unfold outB
  rw [Bool.or_eq_false_iff, decide_eq_false_iff_not, decide_eq_false_iff_not]
  omega
theorem outB_t {n lo hi : Int} (h : n < lo ∨ hi < n) : outB n lo hi = true := by
  unfold outB
  rw [Bool.or_eq_true, decide_eq_true_eq, decide_eq_true_eq]
  exact h

theorem pickC (W R M : Int) (A : Option Addr) (c : Nat) (xs : List RM) (w : World) (hx : Runs w w.heap.size A xs) (hn : xs.length ≤ 9223372036854775807) (hok : ∀ x ∈ xs, x.ok) :
    Calls Try.prog 4 #[.agg #[.int .i64 W, .int .i64 R, .int .i64 M], .slice A xs.length c] w (Picks w (pickS W R M xs)) := by
  by_cases hb : badS W R M
  · refine (pick_bad W R M A xs.length c w ?_).mono ?_
    · unfold badS at hb
      by_cases g1 : W < 2 ∨ 16 < W
      · exact .inl (outB_t g1)
      · by_cases g2 : R < 2 ∨ 64 < R
        · exact .inr (.inl (outB_t g2))
        · exact .inr (.inr (outB_t (by omega)))
    · rintro e w' ⟨rfl, h⟩
      refine ⟨.slice none 0 0, ?_, ?_, h⟩ <;> unfold pickS <;> rw [if_pos hb]
      exact Own.nil
  · have hg := hb
    unfold badS at hg
    have o1 : outB W 2 16 = false := outB_f (by omega)
    have o2 : outB R 2 64 = false := outB_f (by omega)
    have o3 : outB M W 64 = false := outB_f (by omega)
    have hW : ((W.toNat : Nat) : Int) = W := by omega
    cases hs : soundB xs
    · refine (pick_unsound W R M A c xs w hx hn hok o1 o2 o3 hs).mono ?_
      rintro e w' ⟨rfl, h⟩
      have e1 : pickS W R M xs = ([], false, 120) := by
        unfold pickS
        rw [if_neg hb]
        by_cases hl : 64 < xs.length
        · rw [if_pos hl]
        · rw [if_neg hl]
          unfold refPick
          rw [if_pos]
          unfold soundB at hs
          simpa [show xs.length ≤ 64 by omega] using hs
      exact ⟨.slice none 0 0, by rw [e1], by rw [e1]; exact Own.nil, h⟩
    · have hs' := hs
      unfold soundB at hs'
      rw [Bool.and_eq_true, decide_eq_true_eq] at hs'
      obtain ⟨hl, hsl⟩ := hs'
      obtain ⟨hin, hnd⟩ := sound_inv xs [] hsl
      have hp : ∀ x ∈ xs, 0 ≤ x.bytes := fun x hx => (hin x hx).2.1
      have hnum : ∀ x ∈ xs, 1 ≤ x.num ∧ x.num ≤ 9223372036854775807 := fun x hx => ⟨(hin x hx).1, (hok x hx).2.1⟩
      have hfe := fits_eq xs hp
      have e0 : pickS W R M xs = if M < xs.length ∧ sumA xs ≤ 16777216 then (xs.map (·.num), true, 0) else scanR W.toNat R xs (sortedL xs []) := by
        unfold pickS
        rw [if_neg hb, if_neg (by omega)]
        unfold refPick
        rw [if_neg (by rw [hsl]; decide)]
      by_cases hc : M < xs.length ∧ sumA xs ≤ 16777216
      · refine (pick_major W R M A c xs w hx (by omega) hok hp o1 o2 o3 hs hc.1 (by rw [hfe]; simpa using hc.2)).mono ?_
        rintro e w' ⟨v, rfl, hown, h⟩
        rw [nums_all] at hown
        exact ⟨v, by rw [e0, if_pos hc], by rw [e0, if_pos hc]; exact hown, h⟩
      · rw [← hW] at o1 o3
        have hcon := pick_scan W.toNat R M A c xs w hx (by omega) hok hp hnum (by omega) (by omega) (by omega) (by omega) o1 o2 o3 hs (fun h => by
          rw [hfe, decide_eq_false_iff_not]
          exact fun h2 => hc ⟨h, h2⟩)
        rw [hW] at hcon
        refine hcon.mono ?_
        rintro e w' ⟨ys, hperm, hsort, v, rfl, hown, h⟩
        have ey := sorted_one xs ys hnd hperm hsort
        have hq : (sortedL xs []).Perm xs := by simpa using sortedL_perm xs []
        have e2 : pickS W R M xs = scanP W.toNat R xs ys := by
          rw [e0, if_neg hc, ey]
          exact scans W.toNat R xs (by omega) (by omega) _ (sortedL_sorted xs [] List.Pairwise.nil) (fun y hy => hp y (hq.mem_iff.1 hy)) ((hq.map (·.num)).nodup_iff.2 hnd)
        rw [e2]
        exact ⟨v, rfl, hown, h⟩

theorem refC (W R M : Int) (A : Option Addr) (c : Nat) (xs : List RM) (w : World) (hx : Runs w w.heap.size A xs) (hn : xs.length ≤ 9223372036854775807) (hok : ∀ x ∈ xs, x.ok) :
    Calls Try.prog 7 #[.agg #[.int .i64 W, .int .i64 R, .int .i64 M], .slice A xs.length c] w (Picks w (pickS W R M xs)) := by
  by_cases hb : badS W R M
  · refine (ref_bad W R M A xs.length c w hb).mono ?_
    rintro e w' ⟨rfl, h⟩
    refine ⟨.slice none 0 0, ?_, ?_, h⟩ <;> unfold pickS <;> rw [if_pos hb]
    exact Own.nil
  · have hg := hb
    unfold badS at hg
    have hW : ((W.toNat : Nat) : Int) = W := by omega
    by_cases hl : 64 < xs.length
    · refine (ref_many W R M A xs.length c w (by omega) (by omega) (by omega) (by omega) (by omega) (by omega) hl hn).mono ?_
      rintro e w' ⟨rfl, h⟩
      refine ⟨.slice none 0 0, ?_, ?_, h⟩ <;> unfold pickS <;> rw [if_neg hb, if_pos hl]
      exact Own.nil
    · have hcon := ref_any W.toNat R M A c xs w hx (by omega) hok (by omega) (by omega) (by omega) (by omega) (by omega) (by omega)
      rw [hW] at hcon
      refine hcon.mono ?_
      rintro e w' ⟨v, rfl, hown, h⟩
      have e2 : pickS W R M xs = refPick W.toNat R M xs := by unfold pickS; rw [if_neg hb, if_neg hl]
      rw [e2]
      exact ⟨v, rfl, hown, h⟩
end Go.Proofs.Ytgeohmfbodlgeaa
