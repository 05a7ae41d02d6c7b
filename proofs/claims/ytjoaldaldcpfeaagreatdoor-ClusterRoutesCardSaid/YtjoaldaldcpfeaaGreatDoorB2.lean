/-
  Route: the document's, the cluster's.
-/
import Derived.Test.YtjoaldaldcpfeaaGreatDoorB1
namespace Go.Proofs.YtjoaldaldcpfeaaGreatDoor
open Go.RowKit

def RefInv (ss : List (List Int)) (row : List Int) (k : Nat) : Prop := ∀ i s, i < k → ss[i]? = some s → ¬ lt8 row s
theorem RefInv.next {ss : List (List Int)} {row s : List Int} {k : Nat} (h : RefInv ss row k) (hs : ss[k]? = some s) (hn : ¬ lt8 row s) : RefInv ss row (k + 1) := fun i t hi ht => by
  rcases Nat.lt_succ_iff_lt_or_eq.1 hi with h1 | rfl
  · exact h i t h1 ht
  · obtain rfl : s = t := Option.some.inj (hs.symm.trans ht)
    exact hn
theorem RefInv.all {ss : List (List Int)} {row : List Int} (h : RefInv ss row ss.length) : TabOf ss row ss.length :=
  ⟨Nat.le_refl _, h, fun i s hi hs => absurd (List.getElem?_eq_some_iff.1 hs).1 (by omega)⟩
theorem RefInv.stop {ss : List (List Int)} {row s : List Int} {k : Nat} (ho : splitsOK ss) (h : RefInv ss row k) (hs : ss[k]? = some s) (hn : lt8 row s) : TabOf ss row k :=
  ⟨Nat.le_of_lt (List.getElem?_eq_some_iff.1 hs).1, h, fun _i _t hi ht => lt_up ho hi hs ht hn⟩

set_option maxRecDepth 100000 in
set_option maxHeartbeats 4000000 in
theorem route_ref (A rA : Option Addr) (n c rn rc : Nat) (ps : List (BR × List Int)) (row : List Int) (w : World) (h : Rows2 w w.heap.size A ps) (hn : n = ps.length) (hr : Bytes w w.heap.size rA row) (hrn : rn = row.length) (ho : splitsOK (ps.map (·.2))) :
    Calls Tryz.prog 11 #[.slice A n c, .slice rA rn rc] w fun e w' => ∃ k : Nat, e = .returned (.int .i64 k) ∧ TabOf (ps.map (·.2)) row k ∧ ∃ j, w' = w.drewN j := by
  subst hn hrn
  have hl7 : ps.length ≤ 7 := by have := ho.len; simpa using this
  have HH := Lib.hid h
  have HO := Lib.hid ho
  have HR := Lib.hid hr
  clear h ho hr
  go_enter Tryz.func11, Tryz.ntmps11
  go_wp2_with (fail)
  go_loopw [5] (fun i wr => ∃ k nq : Nat, i = .int .i64 k ∧ k ≤ ps.length ∧ wr = w.drewN nq ∧ Hid (RefInv (ps.map (·.2)) row k)) (fun i _ => ps.length - (intOf i).toNat)
  case atStart => exact ⟨0, 0, rfl, by omega, rfl, Lib.hid (fun _ _ h => absurd h (Nat.not_lt_zero _))⟩
  case round =>
    obtain ⟨k, nq, rfl, hk, hw, hU⟩ := hrel
    have HN := Lib.hid (show Rows2 wr w.heap.size A ps by rw [hw]; exact HH.out.keep fun _ _ => rfl)
    have HRN := Lib.hid (show Bytes wr w.heap.size rA row by rw [hw]; exact HR.out.drewN _)
    have HW := Lib.hid hw
    clear hw
    by_cases hlt : k < ps.length
    · obtain ⟨p, hpk⟩ : ∃ p, ps[k]? = some p := ⟨_, List.getElem?_eq_getElem hlt⟩
      obtain ⟨ba, oa, rfl, _, c0, hB1, hz1⟩ := HN.out.at_ hpk
      have HM := Lib.hid (show (ps.map (·.2))[k]? = some p.2 by rw [List.getElem?_map, hpk]; rfl)
      have s1 : ∀ j, (convert 48 9 (.slice p.1.A p.2.length p.1.c)).run Tryz.prog (wr.drewN j) = .ok (.string (strOfNums p.2)) (wr.drewN j) := fun j => bytes_str (B := w.heap.size) (hB1.drewN j) rfl
      have s2 : ∀ j, (convert 48 9 (.slice rA row.length rc)).run Tryz.prog (wr.drewN j) = .ok (.string (strOfNums row)) (wr.drewN j) := fun j => bytes_str (B := w.heap.size) (HRN.out.drewN j) rfl
      clear hB1 hpk
      by_cases hc : lt8 row p.2
      · have hle := str_nle p.2 row hc
        have HT := Lib.hid (RefInv.stop HO.out hU.out HM.out hc)
        clear hc
        go_upto_region 2 with (fail)
        go_quiet (fail)
        go_wp2_with (fail)
        go_ret
        exact ⟨k, rfl, HT.out, _, by rw [HW.out, World.drewN_drewN]⟩
      · have hle := str_leq p.2 row hc
        have HT := Lib.hid (hU.out.next HM.out hc)
        clear hc
        go_upto_region 2 with (fail)
        go_quiet (fail)
        go_wp2_with (fail)
        exact ⟨⟨k + 1, _, by simp, by omega, by rw [HW.out, World.drewN_drewN], HT⟩, by simp [intOf]; omega⟩
    · obtain rfl : k = ps.length := by omega
      have HT := Lib.hid (show TabOf (ps.map (·.2)) row ps.length by have := hU.out; have h2 := RefInv.all (ss := ps.map (·.2)) (row := row) (by rwa [List.length_map]); rwa [List.length_map] at h2)
      go_upto_region 2 with (fail)
      go_quiet (fail)
      go_wp2_with (fail)
      go_ret
      exact ⟨ps.length, rfl, HT.out, _, by rw [HW.out, World.drewN_drewN]⟩

/-! ### the cluster's -/
set_option maxRecDepth 100000 in
set_option maxHeartbeats 4000000 in
theorem rcl_any (i g h X c rc : Nat) (A rA : Option Addr) (ps : List (BR × List Int)) (p : BR × List Int) (row : List Int) (w : World) (hx : w.cell? ⟨g, 0, none⟩ = some (.pointer (some ⟨X, 0, none⟩))) (hr0 : w.cell? ⟨h, 0, none⟩ = some (.slice rA row.length rc))
    (hs : w.cell? ⟨X, 3, none⟩ = some (.slice A ps.length c)) (hh : Rows2 w w.heap.size A ps) (hp : ps[i]? = some p) (hr : Bytes w w.heap.size rA row) :
    Calls Tryz.prog 26 #[.int .i64 i, .pointer (some ⟨g, 0, none⟩), .pointer (some ⟨h, 0, none⟩)] w fun e w' => e = .returned (.bool (decide (0 < cmp3 p.2 row))) ∧ ∃ j, w' = w.drewN j := by
  have hl : i < ps.length := (List.getElem?_eq_some_iff.1 hp).1
  obtain ⟨ba, oa, rfl, _, c0, hB1, hz1⟩ := hh.at_ hp
  have HC : Hid (∀ j, Calls Tryz.prog 16 #[.slice p.1.A p.2.length p.1.c, .slice rA row.length rc] (w.drewN j) fun e w' => e = .returned (.int .i64 (cmp3 p.2 row)) ∧ w' = w.drewN j) := Lib.hid fun j => compare_any _ _ _ _ _ _ _ _ _ (hB1.drewN j) rfl (hr.drewN j) rfl
  clear hh hp hr hB1
  go_enter Tryz.func26, Tryz.ntmps26
  go_wp2_with (fail)
  go_quiet ((go_at_call 16; exact Calls.quiet_of_same (HC.out _)))
  go_wp2_with (fail)
  go_ret
  exact ⟨rfl, _, rfl⟩
end Go.Proofs.YtjoaldaldcpfeaaGreatDoor
