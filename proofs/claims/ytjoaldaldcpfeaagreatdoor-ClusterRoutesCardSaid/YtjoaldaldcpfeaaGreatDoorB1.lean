/-
  bytes.Compare; strataref19.Route, strataref19.splits.
-/
import Derived.Test.YtjoaldaldcpfeaaGreatDoorK2
import Derived.Lib.BytesEntry
import Derived.WalkLawsBesides
namespace Go.Proofs.YtjoaldaldcpfeaaGreatDoor
open Go.RowKit

theorem load_bytes {w : World} {B n c : Nat} {A : Option Addr} {xs : List Int} (h : Bytes w B A xs) (hn : n = xs.length) : (Extern.Bytes.bytesOf (.slice A n c)).run Tryz.prog w = .ok ⟨(u8 xs).toArray⟩ w := by
  subst hn
  cases A with
  | none =>
    have : xs = [] := by
      rcases h with h | ⟨b, o, h, _⟩
      · exact h
      · cases h
    subst this
    rfl
  | some a =>
    have hl := Lib.run_loadBytesX (P := Tryz.prog) w xs a .empty (fun j x hj => by
      obtain ⟨b, o, e, _, hc⟩ := h.at_ hj
      injection e with e
      subst e
      rw [Addr.add_lit]; simpa using hc 0 _ rfl)
    have he : (⟨ByteArray.empty.data ++ (Lib.bytesOf xs).toArray⟩ : ByteArray) = ⟨(Lib.bytesOf xs).toArray⟩ := by
      apply ByteArray.ext
      show (#[] : Array UInt8) ++ (Lib.bytesOf xs).toArray = (Lib.bytesOf xs).toArray
      simp
    rw [he] at hl
    exact hl

theorem run_compare {w : World} {B B' n c n' c' : Nat} {A A' : Option Addr} {xs ys : List Int} (h : Bytes w B A xs) (hn : n = xs.length) (h' : Bytes w B' A' ys) (hn' : n' = ys.length) :
    (Extern.BytealgCompare.compare #[.slice A n c, .slice A' n' c']).run Tryz.prog w = .ok (.int .i64 (cmp3 xs ys)) w := by
  change Sem.run Tryz.prog (do pure (goInt (Extern.BytealgCompare.cmp (← Extern.Bytes.bytesOf (.slice A n c)) (← Extern.Bytes.bytesOf (.slice A' n' c'))))) w = _
  simp only [Sem.run_bind, Sem.run_pure, Result.andThen, load_bytes h hn, load_bytes h' hn']
  rw [Lib.cmp_eq]
  rfl

set_option maxRecDepth 100000 in
theorem compare_any (A A' : Option Addr) (n c n' c' : Nat) (xs ys : List Int) (w : World) (h : Bytes w w.heap.size A xs) (hn : n = xs.length) (h' : Bytes w w.heap.size A' ys) (hn' : n' = ys.length) :
    Calls Tryz.prog 16 #[.slice A n c, .slice A' n' c'] w fun e w' => e = .returned (.int .i64 (cmp3 xs ys)) ∧ w' = w := by
  have HR := Lib.hid (run_compare (c := c) (c' := c') h hn h' hn')
  clear h h' hn hn'
  go_enter Tryz.func16, Tryz.ntmps16
  go_wp2_with (fail)
  rw [run_callFunc_extern Tryz.func33 (by kernel_rfl) (by kernel_rfl) (by kernel_rfl) (e := Extern.BytealgCompare.compare) (by kernel_rfl), HR.out]
  simp only [Result.andThen]
  rw [Oper.upon_value]
  go_wp2_with (fail)
  go_ret
  exact ⟨rfl, rfl⟩

/-! ### strataref19.splits, strataref19.Route -/
open Classical in
noncomputable def splitsB (ss : List (List Int)) : Bool := decide (splitsOK ss)
theorem splitsB_t {ss : List (List Int)} (h : splitsOK ss) : splitsB ss = true := by unfold splitsB; simpa using h
theorem splitsB_f {ss : List (List Int)} (h : ¬ splitsOK ss) : splitsB ss = false := by unfold splitsB; simpa using h
theorem in19_yes (n lo hi : Int) (w : World) (h : lo ≤ n ∧ n ≤ hi) : Calls Tryz.prog 12 #[.int .i64 n, .int .i64 lo, .int .i64 hi] w fun e w' => e = .returned (.bool true) ∧ w' = w := (in19_any n lo hi w).mono fun e w' hh => ⟨by rw [hh.1]; simp [h], hh.2⟩
theorem in19_no (n lo hi : Int) (w : World) (h : ¬ (lo ≤ n ∧ n ≤ hi)) : Calls Tryz.prog 12 #[.int .i64 n, .int .i64 lo, .int .i64 hi] w fun e w' => e = .returned (.bool false) ∧ w' = w := (in19_any n lo hi w).mono fun e w' hh => ⟨by rw [hh.1]; congr; simpa using h, hh.2⟩
theorem str_leq (xs ys : List Int) (h : ¬ u8 ys < u8 xs) : (Op.bytesLess (strOfNums xs).toList (strOfNums ys).toList || (strOfNums xs).toList == (strOfNums ys).toList) = true := by
  rw [str_list, str_list, leqB]; simpa using h
theorem str_nle (xs ys : List Int) (h : u8 ys < u8 xs) : (Op.bytesLess (strOfNums xs).toList (strOfNums ys).toList || (strOfNums xs).toList == (strOfNums ys).toList) = false := by
  rw [str_list, str_list, leqB]; simpa using h

/-- One row lies ahead of another. -/
def lt8 (a b : List Int) : Prop := u8 a < u8 b
def Upto (ss : List (List Int)) (k : Nat) : Prop := (∀ j s, j < k → ss[j]? = some s → 1 ≤ s.length ∧ s.length ≤ 256) ∧ (∀ j p s, j + 1 < k → ss[j]? = some p → ss[j + 1]? = some s → u8 p < u8 s)
theorem Upto.zero (ss : List (List Int)) : Upto ss 0 := ⟨fun _ _ h => absurd h (Nat.not_lt_zero _), fun _ _ _ h => absurd h (Nat.not_lt_zero _)⟩
theorem Upto.first {ss : List (List Int)} {s : List Int} (hs : ss[0]? = some s) (h : 1 ≤ s.length ∧ s.length ≤ 256) : Upto ss 1 :=
  ⟨fun j t hj ht => by obtain rfl : j = 0 := by omega
                       obtain rfl : s = t := Option.some.inj (hs.symm.trans ht)
                       exact h, fun _ _ _ hj => absurd hj (by omega)⟩
theorem Upto.next {ss : List (List Int)} {k : Nat} {p s : List Int} (hu : Upto ss (k + 1)) (hp : ss[k]? = some p) (hs : ss[k + 1]? = some s) (h : 1 ≤ s.length ∧ s.length ≤ 256) (hlt : u8 p < u8 s) : Upto ss (k + 2) :=
  ⟨fun j t hj ht => by
    rcases Nat.lt_succ_iff_lt_or_eq.1 hj with h1 | rfl
    · exact hu.1 j t h1 ht
    · obtain rfl : s = t := Option.some.inj (hs.symm.trans ht)
      exact h, fun j q t hj hq ht => by
    rcases Nat.lt_succ_iff_lt_or_eq.1 hj with h1 | h1
    · exact hu.2 j q t h1 hq ht
    · obtain rfl : j = k := by omega
      obtain rfl : p = q := Option.some.inj (hp.symm.trans hq)
      obtain rfl : s = t := Option.some.inj (hs.symm.trans ht)
      exact hlt⟩
theorem Upto.done {ss : List (List Int)} (h : Upto ss ss.length) (hl : ss.length ≤ 7) : splitsOK ss :=
  ⟨hl, fun s hs => by obtain ⟨j, hj⟩ := List.mem_iff_getElem?.1 hs
                      exact h.1 j s (List.getElem?_eq_some_iff.1 hj).1 hj, fun k p s hp hs => h.2 k p s (List.getElem?_eq_some_iff.1 hs).1 hp hs⟩

set_option maxRecDepth 100000 in
set_option maxHeartbeats 4000000 in
theorem splits_ref (A : Option Addr) (n c : Nat) (ps : List (BR × List Int)) (w : World) (h : Rows2 w w.heap.size A ps) (hn : n = ps.length) (hl : ps.length ≤ 140737488355328) :
    Calls Tryz.prog 14 #[.slice A n c] w fun e w' => e = .returned (.bool (splitsB (ps.map (·.2)))) ∧ ∃ j, w' = w.drewN j := by
  subst hn
  by_cases h7 : ps.length ≤ 7
  case neg =>
    have hv : splitsB (ps.map (·.2)) = false := splitsB_f (fun hs => h7 (by simpa using hs.len))
    have HV := Lib.hid hv
    have hq : (7 : Int) < ps.length := by omega
    clear h hv h7
    go_enter Tryz.func14, Tryz.ntmps14
    go_wp2_with (fail)
    go_ret
    exact ⟨ret_bool HV.out.symm, 0, rfl⟩
  case pos =>
  have HH := Lib.hid h
  clear h
  go_enter Tryz.func14, Tryz.ntmps14
  go_wp2_with (fail)
  go_loopw [3] (fun i wr => ∃ k nq : Nat, i = .int .i64 k ∧ k ≤ ps.length ∧ wr = w.drewN nq ∧ Hid (Upto (ps.map (·.2)) k)) (fun i _ => ps.length - (intOf i).toNat)
  case atStart => exact ⟨0, 0, rfl, by omega, rfl, Lib.hid (Upto.zero _)⟩
  case round =>
    obtain ⟨k, nq, rfl, hk, hw, hU⟩ := hrel
    have HN := Lib.hid (show Rows2 wr w.heap.size A ps by rw [hw]; exact HH.out.keep fun _ _ => rfl)
    have HW := Lib.hid hw
    clear hw
    by_cases hlt : k < ps.length
    · obtain ⟨p, hpk⟩ : ∃ p, ps[k]? = some p := ⟨_, List.getElem?_eq_getElem hlt⟩
      obtain ⟨ba, oa, rfl, _, c0, hB1, hz1⟩ := HN.out.at_ hpk
      have HB1 := Lib.hid hB1
      have HM := Lib.hid (show (ps.map (·.2))[k]? = some p.2 by rw [List.getElem?_map, hpk]; rfl)
      clear hB1
      by_cases hs : 1 ≤ (p.2.length : Int) ∧ (p.2.length : Int) ≤ 256
      · have HY : Hid (∀ W, Calls Tryz.prog 12 #[.int .i64 p.2.length, .int .i64 1, .int .i64 256] W fun e w' => e = .returned (.bool true) ∧ w' = W) := Lib.hid fun W => in19_yes _ _ _ W hs
        have HS := Lib.hid (show 1 ≤ p.2.length ∧ p.2.length ≤ 256 by omega)
        clear hs
        rcases k with _ | k
        · clear hpk
          simp only [Nat.add_zero] at c0
          go_upto_region 6 with (fail)
          go_quiet ((go_at_call 12; exact Calls.quiet_of_same (HY.out _)))
          go_wp2_with (fail)
          exact ⟨⟨1, _, rfl, by omega, by rw [HW.out, World.drewN_drewN], Lib.hid (Upto.first HM.out HS.out)⟩, by simp [intOf]; omega⟩
        · obtain ⟨q, hqk⟩ : ∃ q, ps[k]? = some q := ⟨_, List.getElem?_eq_getElem (by omega)⟩
          obtain ⟨bb, ob, e, _, d0, hB2, hz2⟩ := HN.out.at_ hqk
          injection e with e
          injection e with e1 e2
          subst e1 e2
          have HM2 := Lib.hid (show (ps.map (·.2))[k]? = some q.2 by rw [List.getElem?_map, hqk]; rfl)
          have s1 : ∀ j, (convert 48 9 (.slice p.1.A p.2.length p.1.c)).run Tryz.prog (wr.drewN j) = .ok (.string (strOfNums p.2)) (wr.drewN j) := fun j => bytes_str (B := w.heap.size) (HB1.out.drewN j) rfl
          have s2 : ∀ j, (convert 48 9 (.slice q.1.A q.2.length q.1.c)).run Tryz.prog (wr.drewN j) = .ok (.string (strOfNums q.2)) (wr.drewN j) := fun j => bytes_str (B := w.heap.size) (hB2.drewN j) rfl
          have hk1 : ((k : Int) + 1 - 1).toNat = k := by omega
          have hk2 : IntKind.i64.wrap ((k : Int) + 1 - 1) = k := by rw [show (k : Int) + 1 - 1 = k by omega]; exact IntWalk.i64_in _ (by omega)
          clear hpk hqk hB2
          by_cases hc : lt8 q.2 p.2
          · have hle := str_nle p.2 q.2 hc
            have HC := Lib.hid hc
            clear hc
            go_upto_region 6 with (fail)
            go_quiet ((go_at_call 12; exact Calls.quiet_of_same (HY.out _)))
            go_wp2_with (fail)
            exact ⟨⟨k + 2, _, by simp; omega, by omega, by rw [HW.out, World.drewN_drewN], Lib.hid (Upto.next hU.out HM2.out HM.out HS.out HC.out)⟩, by simp [intOf]; omega⟩
          · have hle := str_leq p.2 q.2 hc
            have HV := Lib.hid (splitsB_f (ss := ps.map (·.2)) (fun hs => hc (hs.rise k _ _ HM2.out HM.out)))
            clear hc
            go_upto_region 6 with (fail)
            go_quiet ((go_at_call 12; exact Calls.quiet_of_same (HY.out _)))
            go_wp2_with (fail)
            go_ret
            exact ⟨ret_bool HV.out.symm, _, by rw [HW.out, World.drewN_drewN]⟩
      · have HY : Hid (∀ W, Calls Tryz.prog 12 #[.int .i64 p.2.length, .int .i64 1, .int .i64 256] W fun e w' => e = .returned (.bool false) ∧ w' = W) := Lib.hid fun W => in19_no _ _ _ W hs
        have HV := Lib.hid (splitsB_f (ss := ps.map (·.2)) (fun h => hs (by have := h.size p.2 (List.mem_of_getElem? HM.out); omega)))
        clear hs hpk
        go_upto_region 6 with (fail)
        go_quiet ((go_at_call 12; exact Calls.quiet_of_same (HY.out _)))
        go_wp2_with (fail)
        go_ret
        exact ⟨ret_bool HV.out.symm, _, by rw [HW.out, World.drewN_drewN]⟩
    · obtain rfl : k = ps.length := by omega
      have HV := Lib.hid (splitsB_t (Upto.done (ss := ps.map (·.2)) (by rw [List.length_map]; exact hU.out) (by rw [List.length_map]; omega)))
      go_wp2_with (fail)
      go_ret
      exact ⟨ret_bool HV.out.symm, nq, HW.out⟩
end Go.Proofs.YtjoaldaldcpfeaaGreatDoor
