/-
  The walk of strataref12.Pick, its first ways: a wrong policy, too many runs; wrong runs; all runs.
-/
import Derived.Test.YtgeohmfbodlgeaaW8
namespace Go.Proofs.Ytgeohmfbodlgeaa
open Go.RowKit

theorem tw_le {α : Type} (p : α → Bool) (m : List α) : (m.takeWhile p).length ≤ m.length := List.IsPrefix.length_le (List.takeWhile_prefix _)
theorem tw_step {α : Type} (p : α → Bool) : ∀ (m : List α) (k : Nat) (y : α), k ≤ (m.takeWhile p).length → m[k]? = some y → if p y = true then k + 1 ≤ (m.takeWhile p).length else k = (m.takeWhile p).length
  | [], k, y, _, h => by simp at h
  | z :: r, 0, y, _, h => by
    simp at h; subst h
    by_cases hb : p z = true <;> simp [hb]
  | z :: r, k + 1, y, hk, h => by
    have h' : r[k]? = some y := by simpa using h
    by_cases hb : p z = true
    · have e : ((z :: r).takeWhile p).length = (r.takeWhile p).length + 1 := by simp [hb]
      rw [e] at hk ⊢
      have := tw_step p r k y (by omega) h'
      split
      · next h1 => rw [if_pos h1] at this; omega
      · next h1 => rw [if_neg h1] at this; omega
    · have e : ((z :: r).takeWhile p).length = 0 := by simp [hb]
      omega

set_option maxRecDepth 100000 in
theorem ref_bad (W R M : Int) (A : Option Addr) (n c : Nat) (w : World) (h : W < 2 ∨ 16 < W ∨ R < 2 ∨ 64 < R ∨ M < W ∨ 64 < M) :
    Calls Try.prog 7 #[.agg #[.int .i64 W, .int .i64 R, .int .i64 M], .slice A n c] w fun e w' => e = .returned (.tuple #[.slice none 0 0, .bool false, .int .i64 124]) ∧ Below w.heap.size w w' := by
  by_cases g1 : W < 2
  · clear h; go_enter Try.func7, Try.ntmps7; go_wp2; go_ret3; exact ⟨rfl, (Below.refl _ _).alloc (Nat.le_refl _) _⟩
  by_cases g2 : 16 < W
  · clear h; go_enter Try.func7, Try.ntmps7; go_wp2; go_ret3; exact ⟨rfl, (Below.refl _ _).alloc (Nat.le_refl _) _⟩
  by_cases g3 : R < 2
  · clear h; go_enter Try.func7, Try.ntmps7; go_wp2; go_ret3; exact ⟨rfl, (Below.refl _ _).alloc (Nat.le_refl _) _⟩
  by_cases g4 : 64 < R
  · clear h; go_enter Try.func7, Try.ntmps7; go_wp2; go_ret3; exact ⟨rfl, (Below.refl _ _).alloc (Nat.le_refl _) _⟩
  by_cases g5 : M < W
  · clear h; go_enter Try.func7, Try.ntmps7; go_wp2; go_ret3; exact ⟨rfl, (Below.refl _ _).alloc (Nat.le_refl _) _⟩
  have g6 : 64 < M := by omega
  clear h; go_enter Try.func7, Try.ntmps7; go_wp2; go_ret3; exact ⟨rfl, (Below.refl _ _).alloc (Nat.le_refl _) _⟩

set_option maxRecDepth 100000 in
theorem ref_many (W R M : Int) (A : Option Addr) (n c : Nat) (w : World) (hW1 : 2 ≤ W) (hW2 : W ≤ 16) (hR1 : 2 ≤ R) (hR2 : R ≤ 64) (hM1 : W ≤ M) (hM2 : M ≤ 64) (hn : 64 < n) (hn2 : n ≤ 9223372036854775807) :
    Calls Try.prog 7 #[.agg #[.int .i64 W, .int .i64 R, .int .i64 M], .slice A n c] w fun e w' => e = .returned (.tuple #[.slice none 0 0, .bool false, .int .i64 120]) ∧ Below w.heap.size w w' := by
  go_enter Try.func7, Try.ntmps7
  go_wp2
  go_ret3
  exact ⟨rfl, (Below.refl _ _).alloc (Nat.le_refl _) _⟩

/-- The sum, as the reference adds. -/
def sumA (xs : List RM) : Int := xs.foldl (fun a x => addedL a x.bytes) 0
theorem sumA_snoc (xs : List RM) (x : RM) : sumA (xs ++ [x]) = addedL (sumA xs) x.bytes := by
  unfold sumA; rw [List.foldl_append]; rfl
theorem sumA_bd : ∀ (xs : List RM) (a : Int), 0 ≤ a → a ≤ 2199023255552 → (∀ x ∈ xs, 0 ≤ x.bytes) → 0 ≤ xs.foldl (fun a x => addedL a x.bytes) a ∧ xs.foldl (fun a x => addedL a x.bytes) a ≤ 2199023255552
  | [], a, h0, h1, _ => ⟨h0, h1⟩
  | x :: r, a, h0, h1, h => by
    have hx := h x (by simp)
    rw [List.foldl_cons]
    refine sumA_bd r _ ?_ ?_ (fun y hy => h y (by simp [hy])) <;> (unfold addedL; split <;> omega)
theorem sumA_lo (xs : List RM) (h : ∀ x ∈ xs, 0 ≤ x.bytes) : 0 ≤ sumA xs ∧ sumA xs ≤ 2199023255552 := sumA_bd xs 0 (by omega) (by omega) h

/-- What the reference finds behind its first loop. -/
structure Firsts (w : World) (A : Option Addr) (W R M : Int) (xs : List RM) (wr : World) : Prop where
  below : Below w.heap.size w wr
  p0 : wr.cell? ⟨w.heap.size, 0, none⟩ = some (.int .i64 W)
  p1 : wr.cell? ⟨w.heap.size, 1, none⟩ = some (.int .i64 R)
  p2 : wr.cell? ⟨w.heap.size, 2, none⟩ = some (.int .i64 M)
  lt : w.heap.size < wr.heap.size
theorem Firsts.drewN {w : World} {A : Option Addr} {W R M : Int} {xs : List RM} {wr : World} (h : Firsts w A W R M xs wr) (n : Nat) : Firsts w A W R M xs (wr.drewN n) := ⟨below_drewN' h.below n, h.p0, h.p1, h.p2, h.lt⟩
theorem Firsts.keep {w : World} {A : Option Addr} {W R M : Int} {xs : List RM} {wr wr' : World} (h : Firsts w A W R M xs wr) (hb : Below wr.heap.size wr wr') : Firsts w A W R M xs wr' :=
  ⟨h.below.trans (hb.mono h.below.size), (hb.cell (p := ⟨w.heap.size, 0, none⟩) h.lt).trans h.p0, (hb.cell (p := ⟨w.heap.size, 1, none⟩) h.lt).trans h.p1, (hb.cell (p := ⟨w.heap.size, 2, none⟩) h.lt).trans h.p2, Nat.lt_of_lt_of_le h.lt hb.size⟩

/-- Is y so small that it goes with a run of b bytes? (as the reference asks) -/
def okQ (R b : Int) (y : RM) : Bool := decide (y.bytes / R ≤ b) && !(y.bytes / R == b && decide (0 < y.bytes % R))
def scanR (W : Nat) (R : Int) (xs : List RM) : List RM → List Int × Bool × Int
  | [] => ([], false, 0)
  | y :: r =>
    if (((y :: r).take W).takeWhile (okQ R y.bytes)).length = W ∧ sumA (((y :: r).take W).takeWhile (okQ R y.bytes)) ≤ 16777216
    then (pickedL xs (((y :: r).take W).takeWhile (okQ R y.bytes)), decide (W = xs.length), 0)
    else scanR W R xs r
def refPick (W : Nat) (R M : Int) (xs : List RM) : List Int × Bool × Int :=
  if soundL xs [] = false then ([], false, 120)
  else if M < xs.length ∧ sumA xs ≤ 16777216 then (xs.map (·.num), true, 0)
  else scanR W R xs (sortedL xs [])

theorem sortedL_len : ∀ (xs m : List RM), (sortedL xs m).length = m.length + xs.length
  | [], m => rfl
  | x :: r, m => by rw [sortedL, sortedL_len r, insL_len, List.length_cons]; omega
theorem insL_perm (m : List RM) (x : RM) : (insL m x).Perm (x :: m) := by
  unfold insL
  rw [List.append_assoc]
  refine List.perm_middle.trans ?_
  show (x :: (m.take (posL m x) ++ m.drop (posL m x))).Perm (x :: m)
  rw [List.take_append_drop]
theorem sortedL_perm : ∀ (xs m : List RM), (sortedL xs m).Perm (m ++ xs)
  | [], m => by simp [sortedL]
  | x :: r, m => by
    rw [sortedL]
    refine (sortedL_perm r _).trans ?_
    refine ((insL_perm m x).append_right r).trans ?_
    exact List.perm_middle.symm
theorem quo_in' (a R : Int) (ha : 0 ≤ a) (ha2 : a ≤ 9223372036854775807) (hR : 2 ≤ R) : wrap64 (a.tdiv R) = a / R := by
  rw [Int.tdiv_eq_ediv_of_nonneg ha]
  have h1 : 0 ≤ a / R := Int.ediv_nonneg ha (by omega)
  have h2 : a / R ≤ a := Int.ediv_le_self _ ha
  exact IntWalk.wrap64_in _ ⟨by omega, by omega⟩

theorem picked_n (A1 A2 : Option Addr) (c1 c2 n : Nat) (xs l : List RM) (w : World) (hx : Runs w w.heap.size A1 xs) (hl : Runs w w.heap.size A2 l) (hn : n = l.length) (hn1 : xs.length ≤ 100) (hn2 : l.length ≤ 100) :
    Calls Try.prog 18 #[.slice A1 xs.length c1, .slice A2 n c2] w fun e w' => ∃ v, e = .returned v ∧ Own encI 1 3 w' w.heap.size v (pickedL xs l) ∧ Below w.heap.size w w' := by
  subst hn; exact picked_any A1 A2 c1 c2 xs l w hx hl hn1 hn2

theorem drop_get {α : Type} {l : List α} {k : Nat} (h : k < l.length) : l.drop k = l[k] :: l.drop (k + 1) := List.drop_eq_getElem_cons h

set_option maxRecDepth 100000 in
set_option maxHeartbeats 8000000 in
theorem ref_any (W : Nat) (R M : Int) (A : Option Addr) (c : Nat) (xs : List RM) (w : World) (hx : Runs w w.heap.size A xs) (hn : xs.length ≤ 64) (hok : ∀ x ∈ xs, x.ok)
    (hW1 : 2 ≤ W) (hW2 : W ≤ 16) (hR1 : 2 ≤ R) (hR2 : R ≤ 64) (hM1 : W ≤ M) (hM2 : M ≤ 64) :
    Calls Try.prog 7 #[.agg #[.int .i64 W, .int .i64 R, .int .i64 M], .slice A xs.length c] w fun e w' => ∃ v, e = .returned (.tuple #[v, .bool (refPick W R M xs).2.1, .int .i64 (refPick W R M xs).2.2]) ∧ Own encI 1 3 w' w.heap.size v (refPick W R M xs).1 ∧ Below w.heap.size w w' := by
  have hb0 : Below w.heap.size w (w.alloc (.cells #[.int .i64 W, .int .i64 R, .int .i64 M] 23)) := (Below.refl _ _).alloc (Nat.le_refl _) _
  obtain ⟨p0, p1, p2⟩ := @policy_at w W R M
  have hf0 : Firsts w A W R M xs (w.alloc (.cells #[.int .i64 W, .int .i64 R, .int .i64 M] 23)) := ⟨hb0, p0, p1, p2, by simp⟩
  have hW1' : (2 : Int) ≤ (W : Int) := by omega
  have hW2' : (W : Int) ≤ 16 := by omega
  clear p0 p1 p2 hb0
  go_enter Try.func7, Try.ntmps7
  go_upto_region 7 with (fail)
  go_loopw [7, 8] (fun a i wr => ∃ (k : Nat) (s : Int) (seen : List Int), i = .int .i64 k ∧ k ≤ xs.length ∧ a = .int .i64 s ∧ 0 ≤ s ∧ s ≤ 2199023255552 ∧ Hid (s = sumA (xs.take k)) ∧ Hid (soundL (xs.drop k) seen = soundL xs []) ∧ Hid (∀ z, seen.contains z = ((xs.take k).map (·.num)).contains z) ∧ Hid (∀ x ∈ xs.take k, 0 ≤ x.bytes) ∧ Firsts w A W R M xs wr) (fun _ i _ => xs.length - (intOf i).toNat)
  case atStart => exact ⟨0, 0, [], rfl, by omega, rfl, by omega, by omega, rfl, rfl, fun z => by simp, (by intro x hx; simp at hx), hf0⟩
  case round =>
    obtain ⟨k, s, seen, rfl, hk, rfl, hs0, hs1, hsum, hsd, hsn, hnn, hF⟩ := hrel
    clear hf0
    obtain ⟨wo, rfl⟩ : ∃ wo : World, wo = wr := ⟨_, rfl⟩
    by_cases hlt : k < xs.length
    · obtain ⟨ba, o, rfl, _, c0, c1, c2, c3, c4, c5, c6, c7⟩ := runs_at (hx.below hF.below) (List.getElem?_eq_getElem hlt)
      have HX := Lib.hid (drop_get hlt)
      have HT := Lib.hid (take_succ_eq (List.getElem?_eq_getElem hlt))
      generalize xs[k] = x at c0 c1 c2 c3 c4 c5 c6 c7 HX HT
      have HF := Lib.hid (show soundL (x :: xs.drop (k + 1)) seen = soundL xs [] by rw [← HX.out]; exact hsd.out)
      by_cases g1 : x.num < 1
      · have hv : refPick W R M xs = ([], false, 120) := by
          have := HF.out
          rw [soundL, if_pos g1] at this
          unfold refPick; rw [if_pos this.symm]
        have HV := Lib.hid hv
        clear hv
        go_wp2
        go_ret3
        exact ⟨.slice none 0 0, by rw [HV.out]; rfl, by rw [HV.out]; exact Own.nil, hF.below⟩
      by_cases g2 : x.bytes < 0
      · have hv : refPick W R M xs = ([], false, 120) := by
          have := HF.out
          rw [soundL, if_neg g1, if_pos g2] at this
          unfold refPick; rw [if_pos this.symm]
        have HV := Lib.hid hv
        clear hv
        go_wp2
        go_ret3
        exact ⟨.slice none 0 0, by rw [HV.out]; rfl, by rw [HV.out]; exact Own.nil, hF.below⟩
      go_wp2_with fail
      go_loopw [9] (fun j wi => ∃ (j' n : Nat), j = .int .i64 j' ∧ j' ≤ k ∧ Hid (((xs.take j').map (·.num)).contains x.num = false) ∧ wi = wo.drewN n) (fun j _ => k - (intOf j).toNat)
      case atStart => exact ⟨0, 0, rfl, by omega, by simp [Hid], rfl⟩
      case round =>
        obtain ⟨j, n, rfl, hj, hct, rfl⟩ := hrel
        by_cases hjl : j < k
        · have hjx : j < xs.length := by omega
          obtain ⟨_, _, e1, _, d0, _⟩ := runs_at (hx.below hF.below) (List.getElem?_eq_getElem hjx)
          injection e1 with e1
          injection e1 with e1 e2
          subst e1 e2
          have HT2 := Lib.hid (take_succ_eq (List.getElem?_eq_getElem hjx))
          have HJ := Lib.hid (List.getElem?_eq_getElem hjx)
          generalize xs[j] = y at d0 HT2 HJ
          cases hc : (y.num == x.num)
          · have HC := Lib.hid hc
            go_wp2_with fail
            go_quiet (fail)
            go_wp2
            go_roundw
            case rel => exact ⟨j + 1, _, by go_num, by omega, by
              show ((xs.take (j + 1)).map (·.num)).contains x.num = false
              rw [HT2.out, List.map_append]
              have h1 := hct.out
              have h2 : ¬ x.num = y.num := fun e => by have := HC.out; rw [e] at this; simp at this
              simp only [List.contains_eq_mem, List.map_cons, List.map_nil, decide_eq_false_iff_not, List.mem_append, List.mem_cons, List.not_mem_nil, or_false] at h1 ⊢
              rintro (h | h)
              · exact h1 h
              · exact h2 h, rfl⟩
            case measure => simp [intOf]; omega
          · have HC := Lib.hid hc
            have hv : refPick W R M xs = ([], false, 120) := by
              have := HF.out
              have hin : seen.contains x.num = true := by
                rw [hsn.out]
                have hy : y ∈ xs.take k := List.mem_of_getElem? (by rw [List.getElem?_take, if_pos hjl]; exact HJ.out)
                have := beq_iff_eq.1 HC.out
                rw [List.contains_iff_mem, ← this]
                exact List.mem_map_of_mem hy
              rw [soundL, if_neg (by omega), if_neg (by omega), if_pos hin] at this
              unfold refPick; rw [if_pos this.symm]
            have HV := Lib.hid hv
            clear hv
            go_wp2_with fail
            go_quiet (fail)
            go_wp2
            go_ret3
            exact ⟨.slice none 0 0, by rw [HV.out]; rfl, by rw [HV.out]; exact Own.nil, below_drewN' (below_drewN' hF.below _) _⟩
        · have hjk : j = k := by omega
          have HJK := Lib.hid hjk
          clear hjk
          have hstep := Lib.hid (show soundL (xs.drop (k + 1)) (x.num :: seen) = soundL xs [] by
            have := HF.out
            have hin : seen.contains x.num = false := by rw [hsn.out, ← HJK.out]; exact hct.out
            rw [soundL, if_neg (by omega), if_neg (by omega), hin] at this
            exact this)
          have hadd := Lib.hid (show addedL s x.bytes = sumA (xs.take (k + 1)) by rw [HT.out, sumA_snoc, ← hsum.out])
          have hb1 : 0 ≤ addedL s x.bytes := by unfold addedL; split <;> omega
          have hb2 : addedL s x.bytes ≤ 2199023255552 := by unfold addedL; split <;> omega
          go_wp2_with (go_at_call 15; refine (added_any s x.bytes _ hs0 (by omega)).mono ?_; rintro e w' ⟨rfl, rfl⟩)
          go_roundw
          case rel => exact ⟨k + 1, addedL s x.bytes, x.num :: seen, by go_num, by omega, rfl, hb1, hb2, hadd, hstep, by
            intro z
            have := hsn.out z
            rw [HT.out, List.map_append]
            simp only [List.contains_eq_mem, decide_eq_decide, List.map_cons, List.map_nil, List.mem_cons, List.mem_append, List.not_mem_nil, or_false] at this ⊢
            rw [this]; exact Or.comm, by
            intro y hy
            rw [HT.out, List.mem_append] at hy
            rcases hy with hy | hy
            · exact hnn.out y hy
            · simp at hy; subst hy; omega, hF.drewN _⟩
          case measure => simp [intOf]; omega
    · have hz1 : xs.drop k = [] := List.drop_eq_nil_of_le (by omega)
      have hz2 : xs.take k = xs := List.take_of_length_le (by omega)
      have HSD := Lib.hid (show soundL xs [] = true by have := hsd.out; rw [hz1] at this; exact this.symm)
      have HNN := Lib.hid (show ∀ x ∈ xs, 0 ≤ x.bytes by have := hnn.out; rwa [hz2] at this)
      have HSUM := Lib.hid (show s = sumA xs by have := hsum.out; rwa [hz2] at this)
      clear hz1 hz2 hsd hsn hnn hsum
      obtain ⟨hFb, f0, f1, f2, hFlt⟩ := hF
      go_upto_region 17 with (fail)
      go_cut [99] (fun q wx => q = .bool (decide (M < xs.length ∧ s ≤ 16777216)) ∧ wx = wo)
      case first =>
        by_cases hM : M < xs.length
        · by_cases hs : s ≤ 16777216
          · go_wp2_with fail
            go_meet
            exact ⟨congrArg Value.bool (by simp [hM, hs]), rfl⟩
          · have hs' : decide (s ≤ 16777216) = false := by simpa using hs
            go_wp2_with fail
            go_meet
            exact ⟨congrArg Value.bool (by simp; omega), rfl⟩
        · have hM' : decide (M < (xs.length : Int)) = false := by simpa using hM
          go_wp2_with fail
          go_meet
          exact ⟨congrArg Value.bool (by simp; omega), rfl⟩
      case rest =>
        obtain ⟨rfl, rfl⟩ := hcut
        by_cases hc : M < xs.length ∧ s ≤ 16777216
        · have hc' : decide (M < (xs.length : Int) ∧ s ≤ 16777216) = true := by simpa using hc
          have HV := Lib.hid (show refPick W R M xs = (xs.map (·.num), true, 0) by unfold refPick; rw [if_neg (by rw [HSD.out]; decide), if_pos (by rw [← HSUM.out]; exact hc)])
          rw [hc']
          clear hc hc'
          go_wp2_with (go_at_call 16; refine (numbers_any A c xs wc ((hx.below hFb).more hFb.size) (by omega)).mono ?_; rintro e w6 ⟨v, rfl, hown, hb6⟩)
          go_ret3
          exact ⟨v, by rw [HV.out]; rfl, by rw [HV.out]; exact hown.weaken hFb.size, hFb.trans (hb6.mono hFb.size)⟩
        · have hc' : decide (M < (xs.length : Int) ∧ s ≤ 16777216) = false := by simpa using hc
          have HV := Lib.hid (show refPick W R M xs = scanR W R xs (sortedL xs []) by unfold refPick; rw [if_neg (by rw [HSD.out]; decide), if_neg (by rw [← HSUM.out]; exact hc)])
          rw [hc']
          clear hc hc'
          go_wp2_with (go_at_call 17; refine (sorted_any A c xs wc ((hx.below hFb).more hFb.size) (by omega)).mono ?_; rintro e w4 ⟨v, rfl, hown4, hb4⟩; obtain ⟨A', c', rfl⟩ := hown4.form)
          have hcap : (sortedL xs []).length ≤ c' := hown4.cap.2
          have hrow := hown4.row len_RM
          have hlen := sortedL_len xs []
          simp only [List.length_nil, Nat.zero_add] at hlen
          have hlen1 : (sortedL xs []).length ≤ 64 := by omega
          have hmem : ∀ y ∈ sortedL xs [], y ∈ xs := fun y hy => by have := (sortedL_perm xs []).mem_iff.1 hy; simpa using this
          have HL := Lib.hid hlen
          have hF4 : Firsts w A W R M xs w4 := (Firsts.mk hFb f0 f1 f2 hFlt).keep hb4
          have hnb : ∀ y ∈ sortedL xs [], 0 ≤ y.bytes := fun y hy => HNN.out y (hmem y hy)
          have hnm : ∀ y ∈ sortedL xs [], y.bytes ≤ 9223372036854775807 := fun y hy => (hok y (hmem y hy)).2.2.2
          clear hlen hown4 hb4 hmem hFb f0 f1 f2 hFlt
          generalize sortedL xs [] = l at hcap hrow hlen1 HL HV hnb hnm
          clear hk hlt hs0 hs1 HSUM
          go_loopw [11] (fun i wr => ∃ (k : Nat), i = .int .i64 k ∧ k ≤ l.length ∧ Hid (scanR W R xs (l.drop k) = scanR W R xs l) ∧ Runs wr wr.heap.size A' l ∧ Firsts w A W R M xs wr) (fun i _ => l.length - (intOf i).toNat)
          case atStart => exact ⟨0, rfl, by omega, rfl, hrow, hF4⟩
          case round =>
            obtain ⟨k, rfl, hk, hsk, hr, hF⟩ := hrel
            obtain ⟨wo, rfl⟩ : ∃ wo : World, wo = wr := ⟨_, rfl⟩
            clear hrow hF4
            by_cases hlt : k < l.length
            · have hyk := Lib.hid (List.getElem?_eq_getElem hlt)
              have HX := Lib.hid (drop_get hlt)
              generalize l[k] = y at hyk HX
              have hTW : (((l.drop k).take W).takeWhile (okQ R y.bytes)).length ≤ ((l.drop k).take W).length := tw_le _ _
              rw [List.length_take, List.length_drop] at hTW
              have hTs := fun j z => tw_step (okQ R y.bytes) ((l.drop k).take W) j z
              have hTp : ((l.drop k).take W).takeWhile (okQ R y.bytes) <+: (l.drop k).take W := List.takeWhile_prefix _
              have HS := Lib.hid (show scanR W R xs l = if (((l.drop k).take W).takeWhile (okQ R y.bytes)).length = W ∧ sumA (((l.drop k).take W).takeWhile (okQ R y.bytes)) ≤ 16777216 then (pickedL xs (((l.drop k).take W).takeWhile (okQ R y.bytes)), decide (W = xs.length), 0) else scanR W R xs (l.drop (k + 1)) by
                rw [← hsk.out, HX.out, scanR])
              have HTS := Lib.hid hTs
              have HTP := Lib.hid hTp
              clear hTs hTp hsk
              generalize hTd : ((l.drop k).take W).takeWhile (okQ R y.bytes) = T at hTW HTS HTP HS
              have HTD := Lib.hid hTd
              clear hTd
              go_wp2_with fail
              go_loopw [12, 13, 14] (fun a b d wi => ∃ (j n : Nat) (s : Int), a = .int .i64 s ∧ b = .int .i64 j ∧ d = .int .i64 (k + j : Nat) ∧ j ≤ T.length ∧ 0 ≤ s ∧ s ≤ 2199023255552 ∧ Hid (s = sumA (T.take j)) ∧ wi = wo.drewN n) (fun _ b _ _ => W + 1 - (intOf b).toNat)
              case atStart => exact ⟨0, 0, 0, rfl, rfl, rfl, by omega, by omega, by omega, rfl, rfl⟩
              case round =>
                obtain ⟨j, n, s, rfl, rfl, rfl, hj, hs0, hs1, hsum, rfl⟩ := hrel
                obtain ⟨hFb, f0, f1, f2, hFlt⟩ := hF
                have HF := Lib.hid (Firsts.mk hFb f0 f1 f2 hFlt : Firsts w A W R M xs wo)
                go_upto_region 26 with (fail)
                go_cut [164] (fun q wx => ∃ qb : Bool, q = .bool qb ∧ (qb = true → j + 1 ≤ T.length ∧ k + j < l.length) ∧ (qb = false → j = T.length) ∧ ∃ n', wx = wo.drewN n')
                case first =>
                  by_cases a1 : k + j < l.length
                  · have a1' : (k : Int) + (j : Int) < (l.length : Int) := by omega
                    by_cases a2 : j < W
                    · have hz := List.getElem?_eq_getElem a1
                      obtain ⟨_, _, e1, _, _, _, _, _, _, c5, _, _⟩ := runs_at hr hyk.out
                      obtain ⟨_, _, e2, _, _, _, _, _, _, d5, _, _⟩ := runs_at hr hz
                      subst e1
                      injection e2 with e2
                      injection e2 with e2 e3
                      subst e2 e3
                      have hzb := hnb _ (List.getElem_mem a1)
                      have hzm := hnm _ (List.getElem_mem a1)
                      have hst := Lib.hid (HTS.out j l[k + j] hj (by rw [List.getElem?_take, if_pos a2, List.getElem?_drop]; exact hz))
                      generalize l[k + j] = z at d5 hzb hzm hst
                      have hq1 := quo_in' z.bytes R hzb hzm hR1
                      have hq2 : z.bytes.tmod R = z.bytes % R := Int.tmod_eq_emod_of_nonneg hzb
                      by_cases g1 : z.bytes / R ≤ y.bytes
                      · cases g2 : (z.bytes / R == y.bytes)
                        · go_quiet (fail)
                          go_wp2
                          go_meet
                          exact ⟨true, rfl, (fun _ => ⟨by have := hst.out; rwa [if_pos (by simp only [okQ, g2]; simp [g1])] at this, a1⟩), (fun (h : true = false) => (by cases h)), (by first | exact ⟨_, rfl⟩ | exact ⟨_, World.drewN_drewN _ _ _⟩)⟩
                        · by_cases g3 : 0 < z.bytes % R
                          · go_quiet (fail)
                            go_wp2
                            go_meet
                            exact ⟨false, rfl, (fun (h : false = true) => (by cases h)), (fun _ => by have := hst.out; rwa [if_neg (by simp only [okQ, g2]; simp [g3])] at this), (by first | exact ⟨_, rfl⟩ | exact ⟨_, World.drewN_drewN _ _ _⟩)⟩
                          · have g3' : decide (0 < z.bytes % R) = false := by simpa using g3
                            go_quiet (fail)
                            go_wp2
                            go_meet
                            exact ⟨true, rfl, (fun _ => ⟨by have := hst.out; rwa [if_pos (by simp only [okQ, g2, g3']; simp [g1])] at this, a1⟩), (fun (h : true = false) => (by cases h)), (by first | exact ⟨_, rfl⟩ | exact ⟨_, World.drewN_drewN _ _ _⟩)⟩
                      · have g1' : decide (z.bytes / R ≤ y.bytes) = false := by simpa using g1
                        go_quiet (fail)
                        go_wp2
                        go_meet
                        exact ⟨false, rfl, (fun (h : false = true) => (by cases h)), (fun _ => by have := hst.out; rwa [if_neg (by simp only [okQ, g1']; simp)] at this), (by first | exact ⟨_, rfl⟩ | exact ⟨_, World.drewN_drewN _ _ _⟩)⟩
                    · have a2' : decide ((j : Int) < (W : Int)) = false := by rw [decide_eq_false_iff_not]; omega
                      have a2'' : decide (j < W) = false := by simpa using a2
                      go_quiet (fail)
                      go_wp2
                      go_meet
                      exact ⟨false, rfl, (fun (h : false = true) => (by cases h)), (fun _ => by omega), (by first | exact ⟨_, rfl⟩ | exact ⟨_, World.drewN_drewN _ _ _⟩)⟩
                  · have a1' : decide ((k : Int) + (j : Int) < (l.length : Int)) = false := by rw [decide_eq_false_iff_not]; omega
                    have a1'' : decide (k + j < l.length) = false := by simpa using a1
                    go_quiet (fail)
                    go_wp2
                    go_meet
                    exact ⟨false, rfl, (fun (h : false = true) => (by cases h)), (fun _ => by omega), (by first | exact ⟨_, rfl⟩ | exact ⟨_, World.drewN_drewN _ _ _⟩)⟩
                case rest =>
                  obtain ⟨q, rfl, hq1, hq0, n', rfl⟩ := hcut
                  cases q
                  · have hjT := hq0 rfl
                    subst hjT
                    clear hq0 hq1
                    have htk : T.take T.length = T := List.take_length
                    have hsT := Lib.hid (show s = sumA T by have := hsum.out; rwa [htk] at this)
                    clear htk hsum
                    have hTlen : T.length ≤ W ∧ T.length ≤ l.length - k := by omega
                    have hcutT := Lib.hid (show (l.take (k + T.length)).drop k = T by
                      have h1 := List.prefix_iff_eq_take.1 HTP.out
                      rw [List.drop_take, show k + T.length - k = T.length from by omega]
                      conv => rhs; rw [h1]
                      rw [List.take_take, Nat.min_eq_left hTlen.1])
                    by_cases hjW : T.length = W
                    · have hjb : ((T.length : Int) == (W : Int)) = true := by rw [beq_iff_eq]; omega
                      have HJW := Lib.hid hjW
                      have hWl : (T.length : Int) ≤ 16 := by omega
                      clear hjW
                      by_cases hs24 : s ≤ 16777216
                      · have HV3 := Lib.hid (show refPick W R M xs = (pickedL xs T, decide (W = xs.length), 0) by rw [HV.out, HS.out, if_pos ⟨HJW.out, by rw [← hsT.out]; exact hs24⟩])
                        have hrd : Runs (wo.drewN n') wo.heap.size A' l := hr
                        have hxd : Runs (wo.drewN n') (wo.drewN n').heap.size A xs := (hx.below hFb).more hFb.size
                        have hkT : k + T.length ≤ l.length := by omega
                        have hT100 : T.length ≤ 100 := by omega
                        go_wp2_with (first
                          | (refine wp_cut _ encRM 8 rfl (.tmp 185) (some (.tmp 186)) (some (.tmp 189)) 24 rfl 31 Try.underlying24 size31 wo.heap.size A' l.length c' rfl l rfl hrd k (k + T.length) rfl (fun h => by cases h) rfl (fun h => by cases h) (by omega) hkT hcap ?_
                             intro A2 hr2
                             rw [hcutT.out] at hr2)
                          | (go_at_call 18; refine (picked_n A A2 c _ _ xs T (wo.drewN n') hxd hr2 (by omega) (by omega) hT100).mono ?_; rintro e w6 ⟨v, rfl, hown, hb6⟩))
                        go_ret3
                        refine ⟨v, (show Ending.returned (.tuple #[v, .bool ((T.length : Int) == (xs.length : Int)), .int .i64 0]) = _ from ?_), by rw [HV3.out]; exact hown.weaken hFb.size, (below_drewN' hFb n').trans (hb6.mono hFb.size)⟩
                        have e : ((T.length : Int) == (xs.length : Int)) = decide (W = xs.length) := by
                          rw [Bool.eq_iff_iff, beq_iff_eq, decide_eq_true_eq]; have := HJW.out; omega
                        rw [HV3.out, e]
                      · have hs24' : decide (s ≤ 16777216) = false := by simpa using hs24
                        have HS2 := Lib.hid (show scanR W R xs (l.drop (k + 1)) = scanR W R xs l by rw [HS.out, if_neg (by rintro ⟨_, h⟩; rw [← hsT.out] at h; exact hs24 h)])
                        go_wp2
                        go_roundw
                        case rel => exact ⟨k + 1, by go_num, by omega, HS2.out, hr, HF.out.drewN _⟩
                        case measure => simp [intOf]; omega
                    · have hjb : ((T.length : Int) == (W : Int)) = false := by rw [beq_eq_false_iff_ne]; omega
                      have HS2 := Lib.hid (show scanR W R xs (l.drop (k + 1)) = scanR W R xs l by rw [HS.out, if_neg (by rintro ⟨h, _⟩; exact hjW h)])
                      clear hjW
                      go_wp2
                      go_roundw
                      case rel => exact ⟨k + 1, by go_num, by omega, HS2.out, hr, HF.out.drewN _⟩
                      case measure => simp [intOf]; omega
                  · obtain ⟨hj1, hkl⟩ := hq1 rfl
                    clear hq0 hq1
                    have hz := List.getElem?_eq_getElem hkl
                    obtain ⟨_, _, rfl, _, _, _, _, _, _, d5, _, _⟩ := runs_at hr hz
                    have hzb := hnb _ (List.getElem_mem hkl)
                    have hTj := Lib.hid (show T[j]? = some l[k + j] by
                      obtain ⟨t, ht⟩ := HTP.out
                      have h1 : T[j]? = (T ++ t)[j]? := (List.getElem?_append_left (by omega)).symm
                      rw [h1, ht, List.getElem?_take, if_pos (by omega), List.getElem?_drop]; exact hz)
                    clear hz
                    generalize l[k + j] = z at d5 hzb hTj
                    have hadd := Lib.hid (show addedL s z.bytes = sumA (T.take (j + 1)) by rw [take_succ_eq hTj.out, sumA_snoc, ← hsum.out])
                    have hb1 : 0 ≤ addedL s z.bytes := by unfold addedL; split <;> omega
                    have hb2 : addedL s z.bytes ≤ 2199023255552 := by unfold addedL; split <;> omega
                    go_wp2_with (go_at_call 15; refine (added_any s z.bytes _ hs0 hzb).mono ?_; rintro e w' ⟨rfl, rfl⟩)
                    go_roundw
                    case rel => exact ⟨j + 1, n', addedL s z.bytes, rfl, by go_num, congrArg (Value.int .i64) (by omega), hj1, hb1, hb2, hadd, rfl⟩
                    case measure => simp [intOf]; omega
            · have HV2 := Lib.hid (show refPick W R M xs = ([], false, 0) by rw [HV.out, ← hsk.out, List.drop_eq_nil_of_le (by omega)]; rfl)
              go_wp2
              go_ret3
              exact ⟨.slice none 0 0, by rw [HV2.out]; rfl, by rw [HV2.out]; exact Own.nil, hF.below⟩
end Go.Proofs.Ytgeohmfbodlgeaa
