/-
  The walk of squash.Pick: the tiers: the first window of the sorted runs that fits.
-/
import Derived.Test.YtgeohmfbodlgeaaW8
import Derived.Deep.RegionWith
import Derived.Deep.RegionHeld3
namespace Go.Proofs.Ytgeohmfbodlgeaa
open Go.RowKit

/-- Is y so small that it goes with a run of b bytes? -/
def okR (R b : Int) (y : RM) : Bool := !(decide (b < y.bytes / R) || (y.bytes / R == b && decide (0 < y.bytes % R)))

theorem quo_in (a R : Int) (ha : 0 ≤ a) (ha2 : a ≤ 9223372036854775807) (hR : 2 ≤ R) : wrap64 (a.tdiv R) = a / R := by
  rw [Int.tdiv_eq_ediv_of_nonneg ha]
  have h1 : 0 ≤ a / R := Int.ediv_nonneg ha (by omega)
  have h2 : a / R ≤ a := Int.ediv_le_self _ ha
  exact IntWalk.wrap64_in _ ⟨by omega, by omega⟩
theorem rem_in (a R : Int) (ha : 0 ≤ a) : a.tmod R = a % R := Int.tmod_eq_emod_of_nonneg ha

/-- The scan over what is left of the sorted runs. -/
def scanP (W : Nat) (R : Int) (xs : List RM) : List RM → List Int × Bool × Int
  | [] => ([], false, 0)
  | y :: r =>
    if (y :: r).length < W then ([], false, 0)
    else if okR R y.bytes (((y :: r)[W - 1]?).getD y) = false then scanP W R xs r
    else if fitsL ((y :: r).take W) 16777216 = false then scanP W R xs r
    else (numsL xs (((y :: r).take W).map (·.num)), decide (W = xs.length), 0)

/-- What is known of the world in the scan. -/
structure Scan (w : World) (A A' : Option Addr) (xs ys : List RM) (W : Nat) (R M : Int) (b : Nat) (wr : World) : Prop where
  below : Below w.heap.size w wr
  set : BSet Try.prog 3 4 wr b 0 []
  rows : Runs wr wr.heap.size A' ys
  p0 : wr.cell? ⟨w.heap.size, 0, none⟩ = some (.int .i64 W)
  p1 : wr.cell? ⟨w.heap.size, 1, none⟩ = some (.int .i64 R)
  p2 : wr.cell? ⟨w.heap.size, 2, none⟩ = some (.int .i64 M)
  lt : w.heap.size < wr.heap.size
theorem Scan.keep {w : World} {A A' : Option Addr} {xs ys : List RM} {W : Nat} {R M : Int} {b : Nat} {wr wr' : World} (h : Scan w A A' xs ys W R M b wr) (hb : Below wr.heap.size wr wr') : Scan w A A' xs ys W R M b wr' :=
  ⟨h.below.trans (hb.mono h.below.size), h.set.below hb, (h.rows.below hb).more hb.size, (hb.cell (p := ⟨w.heap.size, 0, none⟩) h.lt).trans h.p0, (hb.cell (p := ⟨w.heap.size, 1, none⟩) h.lt).trans h.p1, (hb.cell (p := ⟨w.heap.size, 2, none⟩) h.lt).trans h.p2, Nat.lt_of_lt_of_le h.lt hb.size⟩

theorem fits_n {A : Option Addr} {c n : Nat} {xs : List RM} {w : World} {B : Nat} (hB : B ≤ w.heap.size) (hx : Runs w B A xs) (hl : n = xs.length) (hn : xs.length ≤ 100) (hp : ∀ x ∈ xs, 0 ≤ x.bytes) :
    Calls Try.prog 10 #[.slice A n c] w fun e w' => e = .returned (.bool (fitsL xs 16777216)) ∧ Below w.heap.size w w' := by subst hl; exact fits_any A c xs w B hB hx hn hp

set_option maxRecDepth 100000 in
set_option maxHeartbeats 4000000 in
theorem pick_scan (W : Nat) (R M : Int) (A : Option Addr) (c : Nat) (xs : List RM) (w : World) (hx : Runs w w.heap.size A xs) (hn : xs.length ≤ 100) (hok : ∀ x ∈ xs, x.ok) (hp : ∀ x ∈ xs, 0 ≤ x.bytes) (hnum : ∀ x ∈ xs, 1 ≤ x.num ∧ x.num ≤ 9223372036854775807)
    (hW1 : 2 ≤ W) (hW2 : W ≤ 16) (hR1 : 2 ≤ R) (hR2 : R ≤ 64)
    (h1 : outB W 2 16 = false) (h2 : outB R 2 64 = false) (h3 : outB M W 64 = false) (h : soundB xs = true) (hf : M < xs.length → fitsL xs 16777216 = false) :
    Calls Try.prog 4 #[.agg #[.int .i64 W, .int .i64 R, .int .i64 M], .slice A xs.length c] w fun e w' => ∃ ys : List RM, ys.Perm xs ∧ Sorted ys ∧ ∃ v, e = .returned (.tuple #[v, .bool (scanP W R xs ys).2.1, .int .i64 (scanP W R xs ys).2.2]) ∧ Own encI 1 3 w' w.heap.size v (scanP W R xs ys).1 ∧ Below w.heap.size w w' := by
  have hs : Runs (w.alloc (.cells #[.int .i64 W, .int .i64 R, .int .i64 M] 23)) w.heap.size A xs := hx.alloc (Nat.le_refl _) _
  have hmm := @run_makeMap Try.prog
  have hb0 : Below w.heap.size w (w.alloc (.cells #[.int .i64 W, .int .i64 R, .int .i64 M] 23)) := (Below.refl _ _).alloc (Nat.le_refl _) _
  obtain ⟨p0, p1, p2⟩ := @policy_at w W R M
  generalize hw1 : w.alloc (.cells #[.int .i64 W, .int .i64 R, .int .i64 M] 23) = w1 at hs hb0 p0 p1 p2
  have hw1' : w.heap.size + 1 = w1.heap.size := by rw [← hw1]; simp
  have HW1 := Lib.hid hw1
  have HW1' := Lib.hid hw1'
  have hle : w.heap.size < w1.heap.size := by omega
  have Hf := Lib.hid hf
  clear hw1 hw1' hf
  go_enter Try.func4, Try.ntmps4
  go_upto_region 1 with (fail)
  rw [HW1.out]
  go_upto_region 6 with (first
    | (go_at_call 8; refine (outside_b _ _ _ _).mono ?_; rintro e w' ⟨rfl, rfl⟩)
    | (go_at_call 9; refine (sound_b _ _ xs _ w.heap.size (by omega) hs (by omega) hok).mono ?_; rintro e w2 ⟨rfl, hb2⟩
       have q0 := (hb2.cell (p := ⟨w.heap.size, 0, none⟩) hle).trans p0
       have q1 := (hb2.cell (p := ⟨w.heap.size, 1, none⟩) hle).trans p1
       have q2 := (hb2.cell (p := ⟨w.heap.size, 2, none⟩) hle).trans p2
       have hs2 := hb2.size
       have hlt2 : w.heap.size < w2.heap.size := by omega
       have hbw2 : Below w.heap.size w w2 := hb0.trans (hb2.mono (by omega))
       clear p0 p1 p2))
  go_cut [42] (fun s wx => s = .bool false ∧ Below (w2.heap.size + 1) (w2.alloc (.map #[] 0)) wx)
  case first =>
    by_cases hM : M < xs.length
    · have hfb := Hf.out hM
      go_wp2_with (go_at_call 10; refine (fits_call hs ((hb2.mono (Nat.le_of_lt hle)).alloc (by omega) _) (by simp; omega) hn hp).mono ?_; rintro e w3 ⟨rfl, hb3⟩)
      go_meet
      exact ⟨rfl, by simpa using hb3⟩
    · have hM' : decide (M < (xs.length : Int)) = false := by simpa using hM
      go_wp2_with fail
      go_meet
      exact ⟨rfl, Below.refl _ _⟩
  case rest =>
    obtain ⟨rfl, hb3⟩ := hcut
    have hset : BSet Try.prog 3 4 wc w2.heap.size 0 [] := (BSet.made w2).below (by simpa using hb3)
    have hb3' : Below w2.heap.size w2 wc := ((Below.refl _ _).alloc (Nat.le_refl _) _).trans (hb3.mono (by omega))
    have hbw3 : Below w.heap.size w wc := hbw2.trans (hb3'.mono (by omega))
    have r0 := (hb3'.cell (p := ⟨w.heap.size, 0, none⟩) hlt2).trans q0
    have r1 := (hb3'.cell (p := ⟨w.heap.size, 1, none⟩) hlt2).trans q1
    have r2 := (hb3'.cell (p := ⟨w.heap.size, 2, none⟩) hlt2).trans q2
    have hlt3 := hb3'.size
    clear hb3 hb2 hmm q0 q1 q2 hb0 hbw2
    go_wp2_with (first
      | (go_at_call 12; refine (clone_any A c xs _ ((hx.below hbw3).more hbw3.size) hn).mono ?_; rintro e w4 ⟨v, rfl, hown4, hb4⟩
         obtain ⟨A', c', rfl⟩ := hown4.form)
      | (go_at_call 13; refine (sort_all A' c' xs w4 wc.heap.size hnum hown4 hn hb4.size).mono ?_; rintro e w5 ⟨rfl, ys, hperm, hsort, hr5, hb5⟩))
    have hsc : Scan w A A' xs ys W R M w2.heap.size w5 := by
      have hb35 : Below wc.heap.size wc w5 := hb4.trans hb5
      exact ⟨hbw3.trans (hb35.mono hbw3.size), hset.below hb35, hr5, (hb35.cell (p := ⟨w.heap.size, 0, none⟩) (by show w.heap.size < _; omega)).trans r0, (hb35.cell (p := ⟨w.heap.size, 1, none⟩) (by show w.heap.size < _; omega)).trans r1,
        (hb35.cell (p := ⟨w.heap.size, 2, none⟩) (by show w.heap.size < _; omega)).trans r2, by have := hb35.size; omega⟩
    have Hlen := Lib.hid hperm.length_eq
    have HW := Lib.hid hsc
    have hcap : xs.length ≤ c' := hown4.cap.2
    have hnb : ∀ y ∈ ys, 0 ≤ y.bytes := fun y hy => hp y (hperm.mem_iff.1 hy)
    have hnm : ∀ y ∈ ys, y.bytes ≤ 9223372036854775807 := fun y hy => (hok y (hperm.mem_iff.1 hy)).2.2.2
    clear r0 r1 r2 hown4 hb4 hr5 hb5 hset hs hnum HW
    go_loopw [11] (fun i wr => ∃ (k : Nat), i = .int .i64 k ∧ k ≤ ys.length ∧ Hid (scanP W R xs (ys.drop k) = scanP W R xs ys) ∧ Scan w A A' xs ys W R M w2.heap.size wr) (fun i _ => ys.length - (intOf i).toNat)
    case atStart => exact ⟨0, rfl, by omega, rfl, hsc⟩
    case round =>
      obtain ⟨k, rfl, hk, hsk, hS⟩ := hrel
      clear hsc
      have hylen : ys.length = xs.length := Hlen.out
      have HYL := Lib.hid hylen
      obtain ⟨hSb, hSset, hSr, s0, s1, s2, hSlt⟩ := hS
      by_cases hle : k + W ≤ ys.length
      · have hle' : k + W ≤ xs.length := by omega
        have hdec : decide ((k : Int) + (W : Int) ≤ (xs.length : Int)) = true := by rw [decide_eq_true_eq]; omega
        have hk1 : k < ys.length := by omega
        have hk2 : k + W - 1 < ys.length := by omega
        clear hylen
        obtain ⟨bb, oo, rfl, hbb, _, _, _, _, _, c5, _, _⟩ := runs_at hSr (List.getElem?_eq_getElem hk1)
        obtain ⟨bb', oo', e1, _, _, _, _, _, _, d5, _, _⟩ := runs_at hSr (List.getElem?_eq_getElem hk2)
        injection e1 with e1
        injection e1 with e1 e2
        subst e1 e2
        have hzb : 0 ≤ (ys[k + W - 1]).bytes := hnb _ (List.getElem_mem hk2)
        have hzm : (ys[k + W - 1]).bytes ≤ 9223372036854775807 := hnm _ (List.getElem_mem hk2)
        have hyd := List.drop_eq_getElem_cons hk1
        have hstep : scanP W R xs (ys.drop k) = if okR R (ys[k]).bytes (ys[k + W - 1]) = false then scanP W R xs (ys.drop (k + 1)) else if fitsL ((ys.drop k).take W) 16777216 = false then scanP W R xs (ys.drop (k + 1))
            else (numsL xs (((ys.drop k).take W).map (·.num)), decide (W = xs.length), 0) := by
          have hl : ¬ (ys[k] :: ys.drop (k + 1)).length < W := by rw [← hyd, List.length_drop]; omega
          have hg : ((ys[k] :: ys.drop (k + 1))[W - 1]?).getD ys[k] = ys[k + W - 1] := by
            rw [← hyd, List.getElem?_drop, show k + (W - 1) = k + W - 1 from by omega, List.getElem?_eq_getElem hk2]; rfl
          conv => lhs; rw [hyd]
          rw [scanP, if_neg hl, hg, ← hyd]
        have HS := Lib.hid (hsk.out.symm.trans hstep)
        have htl : ((ys.drop k).take W).length = W := by rw [List.length_take, List.length_drop]; omega
        have HTL := Lib.hid htl
        have htok : ∀ t ∈ (ys.drop k).take W, t.ok := fun t ht => hok t (hperm.mem_iff.1 (List.mem_of_mem_drop (List.mem_of_mem_take ht)))
        have hbt : ∀ t ∈ (ys.drop k).take W, 0 ≤ t.bytes := fun t ht => hnb t (List.mem_of_mem_drop (List.mem_of_mem_take ht))
        clear hyd hstep hsk htl
        have hke : ((ys.take (k + W)).drop k) = (ys.drop k).take W := by rw [List.drop_take, show k + W - k = W from by omega]
        have HKE := Lib.hid hke
        clear hke
        generalize ys[k] = y at c5 HS
        generalize ys[k + W - 1] = z at d5 HS hzb hzm
        generalize (ys.drop k).take W = t at HS HTL hbt HKE htok
        go_upto_region 19 with (fail)
        go_cut [106] (fun s wx => s = .bool (!okR R y.bytes z) ∧ ∃ n, wx = wr.drewN n)
        case first =>
          have hq1 := quo_in z.bytes R hzb hzm hR1
          have hq2 := rem_in z.bytes R hzb
          by_cases g1 : y.bytes < z.bytes / R
          · go_quiet (fail)
            go_wp2
            go_meet
            exact ⟨congrArg Value.bool (by simp [okR, g1]), _, rfl⟩
          · have g1' : decide (y.bytes < z.bytes / R) = false := by simpa using g1
            cases g2 : (z.bytes / R == y.bytes)
            · go_quiet (fail)
              go_wp2
              go_meet
              exact ⟨congrArg Value.bool (by simp only [okR, g1', g2]; rfl), _, rfl⟩
            · by_cases g3 : 0 < z.bytes % R
              · go_quiet (fail)
                go_wp2
                go_meet
                exact ⟨congrArg Value.bool (by simp only [okR, g1', g2]; simp [g3]), _, rfl⟩
              · have g3' : decide (0 < z.bytes % R) = false := by simpa using g3
                go_quiet (fail)
                go_wp2
                go_meet
                exact ⟨congrArg Value.bool (by simp only [okR, g1', g2, g3']; rfl), _, rfl⟩
        case rest =>
          obtain ⟨rfl, nq, rfl⟩ := hcut
          cases hq : okR R y.bytes z
          · have HQ := Lib.hid hq
            go_wp2
            go_roundw
            case rel => exact ⟨k + 1, by go_num, by omega, by
              show _ = _
              rw [HS.out, if_pos HQ.out], ⟨below_drewN' hSb _, hSset.drewN _, hSr, s0, s1, s2, hSlt⟩⟩
            case measure => simp [intOf]; omega
          · have HQ := Lib.hid hq
            clear hq
            have hSrd : Runs (wr.drewN nq) wr.heap.size (some ⟨bb, oo, none⟩) ys := hSr
            have HW := Lib.hid HTL.out
            have hylen2 : xs.length = ys.length := HYL.out.symm
            have HYL2 := Lib.hid hylen2
            clear hylen2
            have hS0 : Scan w A (some ⟨bb, oo, none⟩) xs ys W R M w2.heap.size (wr.drewN nq) := ⟨below_drewN' hSb _, hSset.drewN _, hSr, s0, s1, s2, hSlt⟩
            cases hfv : fitsL t 16777216
            · have HFV := Lib.hid hfv
              go_wp2_with (first
                | (refine wp_cut _ encRM 8 rfl (.tmp 107) (some (.tmp 108)) (some (.tmp 112)) 24 rfl 31 Try.underlying24 size31 wr.heap.size (some ⟨bb, oo, none⟩) xs.length c' rfl ys HYL2.out hSrd k (k + W) rfl (fun h => by cases h) rfl (fun h => by cases h) (by omega) hle' hcap ?_
                   intro A1 hr1
                   rw [HKE.out] at hr1)
                | (go_at_call 10; (refine (fits_n (w := wr.drewN nq) (B := wr.heap.size) (Nat.le_refl _) hr1 (by have := HTL.out; omega) (by have := HTL.out; omega) hbt).mono ?_); rintro e w7 ⟨rfl, hb7⟩
                   obtain ⟨hSb7, hSset7, hSr7, z0, z1, z2, hSlt7⟩ := hS0.keep hb7
                   have hb2lt := hSset7.lt)
                | (refine wp_cut _ encRM 8 rfl (.tmp 116) (some (.tmp 117)) (some (.tmp 121)) 24 rfl 31 Try.underlying24 size31 w7.heap.size (some ⟨bb, oo, none⟩) xs.length c' rfl ys HYL2.out hSr7 k (k + W) rfl (fun h => by cases h) rfl (fun h => by cases h) (by omega) hle' hcap ?_
                   intro A2 hr2
                   rw [HKE.out] at hr2))
              go_roundw
              case rel => exact ⟨k + 1, by go_num, by omega, by
                show _ = _
                rw [HS.out, if_neg (by rw [HQ.out]; decide), if_pos HFV.out], hS0.keep hb7⟩
              case measure => simp [intOf]; omega
            · have HFV := Lib.hid hfv
              go_wp2_with (first
                | (refine wp_cut _ encRM 8 rfl (.tmp 107) (some (.tmp 108)) (some (.tmp 112)) 24 rfl 31 Try.underlying24 size31 wr.heap.size (some ⟨bb, oo, none⟩) xs.length c' rfl ys HYL2.out hSrd k (k + W) rfl (fun h => by cases h) rfl (fun h => by cases h) (by omega) hle' hcap ?_
                   intro A1 hr1
                   rw [HKE.out] at hr1)
                | (go_at_call 10; (refine (fits_n (w := wr.drewN nq) (B := wr.heap.size) (Nat.le_refl _) hr1 (by have := HTL.out; omega) (by have := HTL.out; omega) hbt).mono ?_); rintro e w7 ⟨rfl, hb7⟩
                   obtain ⟨hSb7, hSset7, hSr7, z0, z1, z2, hSlt7⟩ := hS0.keep hb7
                   have hb2lt := hSset7.lt)
                | (refine wp_cut _ encRM 8 rfl (.tmp 116) (some (.tmp 117)) (some (.tmp 121)) 24 rfl 31 Try.underlying24 size31 w7.heap.size (some ⟨bb, oo, none⟩) xs.length c' rfl ys HYL2.out hSr7 k (k + W) rfl (fun h => by cases h) rfl (fun h => by cases h) (by omega) hle' hcap ?_
                   intro A2 hr2
                   rw [HKE.out] at hr2))
              have Hfin := Lib.hid (show scanP W R xs ys = (numsL xs (t.map (·.num)), decide (W = xs.length), 0) by rw [HS.out, if_neg (by rw [HQ.out]; decide), if_neg (by rw [HFV.out]; decide)])
              have htw : t.length = W := HTL.out
              have htw1 : t.length ≤ W := by omega
              have htw2 : W ≤ t.length := by omega
              clear htw HW
              go_loopw [124] (fun i wi => ∃ (j : Nat), i = .int .i64 j ∧ j ≤ W ∧ BSet Try.prog 3 4 wi w2.heap.size j ((t.take j).map (·.num)).reverse ∧ Runs wi w7.heap.size A2 t ∧ wi.cell? ⟨w.heap.size, 0, none⟩ = some (.int .i64 W) ∧ Below w.heap.size w wi ∧ w7.heap.size ≤ wi.heap.size) (fun i _ => W - (intOf i).toNat)
              case atStart => exact ⟨0, rfl, by omega, hSset7, hr2, z0, hSb7, Nat.le_refl _⟩
              case round =>
                obtain ⟨j, rfl, hj, hset, hrr, y0, hb, hsz⟩ := hrel
                have hblt := hset.lt
                by_cases hjl : j < W
                · have hjt : j < t.length := by omega
                  obtain ⟨ba, o, rfl, _, f0, f1, f2, f3, f4, f5, f6, f7⟩ := runs_at hrr (List.getElem?_eq_getElem hjt)
                  have HT := Lib.hid (take_succ_eq (List.getElem?_eq_getElem hjt))
                  obtain ⟨k1, k2, _, _⟩ := htok t[j] (List.getElem_mem hjt)
                  generalize t[j] = x at f0 f1 f2 f3 f4 f5 f6 f7 HT k1 k2
                  have hw := wf_i64 k1 k2
                  have HN := Lib.hid (show x.num :: ((t.take j).map (·.num)).reverse = ((t.take (j + 1)).map (·.num)).reverse by rw [HT.out, List.map_append]; exact rev_snoc _ _)
                  clear HT
                  generalize ((t.take j).map (·.num)).reverse = S at hset HN
                  have hsz2 := hb.size
                  go_wp2_with (at_mapUpdate; refine wp_put _ rfl _ _ _ 39 rfl 3 4 keyed3 Try.underlying3 Try.underlying39 Try.underlying4 w2.heap.size j S rfl (hset.alloc _) (by unfold maxLen; omega) x.num hw rfl rfl ?_; intro w9 hset1 hg1)
                  have hb9 : Below w.heap.size w w9 := (hb.alloc hsz2 _).grown hg1 (by simp; omega) (by intro j hj; injection hj with hj; omega)
                  have hsz9 := hg1.size
                  simp only [World.size_alloc] at hsz9
                  go_roundw
                  case rel => exact ⟨j + 1, by go_num, by omega, by rw [← HN.out]; exact hset1, (hrr.alloc hsz _).put (hset.alloc _) hg1, cell_put (hset.alloc _) hg1 _ (by rw [World.cell?_alloc_lt _ _ _ (by show w.heap.size < _; omega)]; exact y0), hb9, by omega⟩
                  case measure => simp [intOf]; omega
                · have HZ := Lib.hid (show t.take j = t from List.take_of_length_le (by omega))
                  rw [HZ.out] at hset
                  have hset' := hset.same (S' := t.map (·.num)) (contains_rev _)
                  have hxd : Runs wr.drew wr.drew.heap.size A xs := (hx.below hb).more hb.size
                  have hsetd : BSet Try.prog 3 4 wr.drew w2.heap.size j (t.map (·.num)) := hset'.drewN 1
                  have y0d : wr.drew.cell? ⟨w.heap.size, 0, none⟩ = some (.int .i64 W) := y0
                  have hbd : Below w.heap.size w wr.drew := hb.drew
                  have hltd : w.heap.size < wr.drew.heap.size := by show w.heap.size < wr.heap.size; omega
                  go_wp2_with fail
                  go_region_with (first | (go_at_call 11; (refine (nums_any A c xs wr.drew hxd hn hok _ _ _ hsetd).mono ?_); rintro e w6 ⟨v, rfl, hown, hb6⟩; have y0' := (hb6.cell (p := ⟨w.heap.size, 0, none⟩) hltd).trans y0d))
                  all_goals go_wp2_with fail
                  all_goals go_ret3
                  all_goals (refine ⟨ys, hperm, hsort, v, (show Ending.returned (.tuple #[v, .bool ((W : Int) == (xs.length : Int)), .int .i64 0]) = _ from ?_), ?_, hbd.trans (hb6.mono hbd.size)⟩)
                  all_goals (rw [Hfin.out])
                  all_goals first
                    | exact hown.weaken hbd.size
                    | (have e : ((W : Int) == (xs.length : Int)) = decide (W = xs.length) := by
                         rw [Bool.eq_iff_iff, beq_iff_eq, decide_eq_true_eq]; omega
                       rw [e])
      · have hle' : ¬ k + W ≤ xs.length := by omega
        have hdec : decide ((k : Int) + (W : Int) ≤ (xs.length : Int)) = false := by rw [decide_eq_false_iff_not]; omega
        have hlast : scanP W R xs (ys.drop k) = ([], false, 0) := by
          cases hd : ys.drop k with
          | nil => rfl
          | cons y r =>
            have : (y :: r).length < W := by rw [← hd, List.length_drop]; omega
            rw [scanP, if_pos this]
        have Hfin := Lib.hid (hsk.out.symm.trans hlast)
        have hk100 : k ≤ 100 := by omega
        clear hlast hylen
        go_wp2
        go_ret3
        refine ⟨ys, hperm, hsort, .slice none 0 0, ?_, ?_, hSb⟩
        · rw [Hfin.out]; rfl
        · rw [Hfin.out]; exact Own.nil
end Go.Proofs.Ytgeohmfbodlgeaa
