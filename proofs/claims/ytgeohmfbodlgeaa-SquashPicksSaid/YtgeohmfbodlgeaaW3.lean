/-
  The walk of strataref12.sorted: runs sorted by bytes, then by number, by insertion.
-/
import Derived.Test.YtgeohmfbodlgeaaW2
import Derived.Deep.DeepCutAuto
import Derived.Deep.CutRange
import Derived.Deep.CutBlock
namespace Go.Proofs.Ytgeohmfbodlgeaa
open Go.RowKit

def before (y x : RM) : Bool := decide (y.bytes < x.bytes) || (decide (y.bytes = x.bytes) && decide (y.num < x.num))
def posL (m : List RM) (x : RM) : Nat := (m.takeWhile (before · x)).length
def insL (m : List RM) (x : RM) : List RM := m.take (posL m x) ++ [x] ++ m.drop (posL m x)
def sortedL : List RM → List RM → List RM
  | [], m => m
  | x :: r, m => sortedL r (insL m x)

theorem posL_le (m : List RM) (x : RM) : posL m x ≤ m.length := by
  unfold posL
  exact List.IsPrefix.length_le (List.takeWhile_prefix _)
theorem posL_step : ∀ (m : List RM) (x : RM) (k : Nat) (y : RM), k ≤ posL m x → m[k]? = some y → if before y x = true then k + 1 ≤ posL m x else k = posL m x
  | [], x, k, y, _, h => by simp at h
  | z :: r, x, 0, y, _, h => by
    simp at h; subst h
    unfold posL
    by_cases hb : before z x = true
    · simp [hb]
    · simp [hb]
  | z :: r, x, k + 1, y, hk, h => by
    have h' : r[k]? = some y := by simpa using h
    by_cases hb : before z x = true
    · have e : posL (z :: r) x = posL r x + 1 := by simp [posL, hb]
      rw [e] at hk ⊢
      have := posL_step r x k y (by omega) h'
      split
      · next h1 => rw [if_pos h1] at this; omega
      · next h1 => rw [if_neg h1] at this; omega
    · have e : posL (z :: r) x = 0 := by simp [posL, hb]
      omega
theorem insL_len (m : List RM) (x : RM) : (insL m x).length = m.length + 1 := by
  have := posL_le m x
  simp [insL]
  omega

theorem size31 (w : World) : (Go.sizeOf 31).run Try.prog w = .ok 8 w := by kernel_rfl

theorem row_one_RM (w : World) (x : RM) (g : Nat) (hg : g = w.heap.size) : Runs (w.alloc (.cells #[.int .i64 x.num, .int .i64 x.count, .int .i64 x.index, .int .i64 x.low, .int .i64 x.clock, .int .i64 x.bytes, .slice x.fa x.fl x.fc, .slice x.la x.ll x.lc] 31)) (g + 1) (some ⟨g, 0, none⟩) [x] :=
  .inr ⟨_, _, rfl, by omega, fun k y hk j v hv => by
    subst hg
    have hk0 : k = 0 := by have := (List.getElem?_eq_some_iff.1 hk).1; simp at this; exact this
    subst hk0
    simp at hk; subst hk
    have hj : j < 8 := by have := (List.getElem?_eq_some_iff.1 hv).1; rwa [len_RM] at this
    match j, hj, hv with
    | 0, _, hv | 1, _, hv | 2, _, hv | 3, _, hv | 4, _, hv | 5, _, hv | 6, _, hv | 7, _, hv => simp [encRM] at hv; subst hv; simp⟩

set_option maxHeartbeats 1000000 in
theorem sorted_any (A : Option Addr) (c : Nat) (xs : List RM) (w : World) (hx : Runs w w.heap.size A xs) (hn : xs.length ≤ 100) :
    Calls Try.prog 17 #[.slice A xs.length c] w fun e w' => ∃ v, e = .returned v ∧ Own encRM 8 31 w' w.heap.size v (sortedL xs []) ∧ Below w.heap.size w w' := by
  go_enter Try.func17, Try.ntmps17
  go_wp2
  go_loopw [3, 4] (fun l i wr => ∃ (k : Nat) (m : List RM), i = .int .i64 k ∧ k ≤ xs.length ∧ m.length ≤ k ∧ Hid (sortedL (xs.drop k) m = sortedL xs []) ∧ Own encRM 8 31 wr w.heap.size l m ∧ Below w.heap.size w wr) (fun _ i _ => xs.length - (intOf i).toNat)
  case atStart => exact ⟨0, [], rfl, by omega, by simp, rfl, Own.nil, Below.refl _ _⟩
  case round =>
    obtain ⟨k, m, rfl, hk, hm, hf, hown, hb⟩ := hrel
    by_cases hlt : k < xs.length
    · obtain ⟨ba, o, rfl, hba, c0, c1, c2, c3, c4, c5, c6, c7⟩ := runs_at (hx.below hb) (List.getElem?_eq_getElem hlt)
      have HX := Lib.hid (List.drop_eq_getElem_cons hlt)
      have hsz := hb.size
      generalize xs[k] = x at c0 c1 c2 c3 c4 c5 c6 c7 HX
      obtain ⟨A', c', rfl⟩ := hown.form
      obtain ⟨wo, rfl⟩ : ∃ wo : World, wo = wr := ⟨_, rfl⟩
      have hrow := hown.row len_RM
      have hrow' := Lib.hid hrow
      go_wp2
      go_loopw [5] (fun i wi => ∃ (j n : Nat), i = .int .i64 j ∧ j ≤ posL m x ∧ wi = wo.drewN n) (fun i _ => m.length - (intOf i).toNat)
      case atStart => exact ⟨0, 0, rfl, by omega, rfl⟩
      case round =>
        obtain ⟨j, n, rfl, hj, rfl⟩ := hrel
        have hpl := posL_le m x
        go_upto_region 6 with (fail)
        go_cut [55] (fun s wx => ∃ q : Bool, s = .bool q ∧ (q = true → j + 1 ≤ posL m x) ∧ (q = false → j = posL m x) ∧ ∃ n', wx = wo.drewN n')
        case first =>
          by_cases hjl : j < m.length
          · obtain ⟨bb, oo, rfl, _, d0, d1, d2, d3, d4, d5, d6, d7⟩ := runs_at hrow (List.getElem?_eq_getElem hjl)
            have hst := Lib.hid (posL_step m x j _ hj (List.getElem?_eq_getElem hjl))
            generalize m[j] = y at d0 d1 d2 d3 d4 d5 d6 d7 hst
            by_cases g1 : y.bytes < x.bytes
            · go_quiet (fail)
              go_wp2
              go_meet
              exact ⟨true, rfl, (fun _ => by have := hst.out; rwa [if_pos (by simp [before, g1])] at this), fun (h : true = false) => (by cases h), n + _, World.drewN_drewN _ _ _⟩
            have g1' : decide (y.bytes < x.bytes) = false := by simpa using g1
            by_cases g2 : y.bytes = x.bytes
            · have g2' : (y.bytes == x.bytes) = true := by simpa using g2
              have G2 := Lib.hid g2
              clear g2
              by_cases g3 : y.num < x.num
              · go_quiet (fail)
                go_wp2
                go_meet
                exact ⟨true, rfl, (fun _ => by have := hst.out; rwa [if_pos (by simp [before, g3, G2.out])] at this), fun (h : true = false) => (by cases h), _, rfl⟩
              · have g3' : decide (y.num < x.num) = false := by simpa using g3
                go_quiet (fail)
                go_wp2
                go_meet
                exact ⟨false, rfl, (fun (h : false = true) => (by cases h)), fun _ => by have := hst.out; rwa [if_neg (by simp [before, g1, G2.out]; omega)] at this, _, rfl⟩
            · have g2' : (y.bytes == x.bytes) = false := by simpa using g2
              have G2 := Lib.hid g2
              clear g2
              go_quiet (fail)
              go_wp2
              go_meet
              exact ⟨false, rfl, (fun (h : false = true) => (by cases h)), fun _ => by have := hst.out; rwa [if_neg (by simp [before, G2.out]; omega)] at this, _, rfl⟩
          · have hjl' : decide (j < m.length) = false := by simpa using hjl
            go_quiet (fail)
            go_wp2
            go_meet
            exact ⟨false, rfl, (fun (h : false = true) => (by cases h)), (fun _ => by omega), n + _, World.drewN_drewN _ _ _⟩
        case rest =>
          obtain ⟨q, rfl, hq1, hq0, n', rfl⟩ := hcut
          cases q
          · have hjp := hq0 rfl
            subst hjp
            clear hq0 hq1
            obtain ⟨_, hcap⟩ := hown.cap
            have hrd : Runs (wo.drewN n') wo.heap.size A' m := hrow
            have hown' : Own encRM 8 31 (wo.drewN n') w.heap.size (.slice A' m.length c') m := hown
            have hls := Lib.hid (insL_len m x)
            have hx0 : xs[k]? = some x := by rw [← List.head?_drop, HX.out]; rfl
            have HX0 := Lib.hid hx0
            clear hx0 c0 c1 c2 c3 c4 c5 c6 c7 hrow' hrow
            go_wp2_with (first
              | (refine wp_cut _ encRM 8 rfl (.tmp 59) none (some (.tmp 60)) 24 rfl 31 Try.underlying24 size31 wo.heap.size A' m.length c' rfl m rfl hrd 0 (posL m x) rfl (fun _ => rfl) rfl (fun h => by cases h) (by omega) (by omega) hcap ?_; intro A1 hr1; rw [List.drop_zero] at hr1)
              | (at_builtin; refine wp_app _ encRM 8 rfl (.tmp 58) (.tmp 61) 24 rfl w.heap.size 31 96 Try.underlying24 info31 (by omega) len_RM one_RM (.slice none 0 0) [] rfl Own.nil _ A1 _ _ (m.take (posL m x)) (by simp; omega) rfl hr1 (by simp; omega) (by simp; omega) (by simpa using hsz) ?_
                 intro v2 w2 hown2 hg2 hat2 _
                 have hne2 := Lib.hid (block_ne hown' (v2 := v2) (by simpa [Value.ownBlock] using hat2))
                 clear hat2
                 have hb2 : Below w.heap.size w w2 := (hb.grown (only_drewN' hg2) hsz (by simp [Value.ownBlock]))
                 have hs2 := hb2.size
                 have hw2 : wo.heap.size ≤ w2.heap.size := hg2.size
                 have hm2 : Own encRM 8 31 w2 w.heap.size (.slice A' m.length c') m := hown'.kept hg2 (by simp [Value.ownBlock]; exact Classical.em _)
                 obtain ⟨_, _, e, _, c0, c1, c2, c3, c4, c5, c6, c7⟩ := runs_at (hx.below hb2) HX0.out
                 injection e with e
                 injection e with e1 e2
                 subst e1 e2
                 rw [List.nil_append] at hown2)
              | (at_builtin; refine wp_app _ encRM 8 rfl (.tmp 63) (.tmp 68) 24 rfl w.heap.size 31 96 Try.underlying24 info31 (by omega) len_RM one_RM v2 (m.take (posL m x)) rfl (hown2.alloc _) _ _ 1 1 [x] rfl rfl (row_one_RM _ x _ rfl) (by simp; omega) (by simp; omega) (by simp; omega) ?_
                 intro v3 w3 hown3 hg3 _ _
                 have hb3 : Below w.heap.size w w3 := (hb2.alloc hs2 _).grown hg3 (by simp; omega) (fun j hj => (hown2.lt j hj).1)
                 have hs3 := hb3.size
                 have hm3 : Own encRM 8 31 w3 w.heap.size (.slice A' m.length c') m := (hm2.alloc _).kept hg3 hne2.out
                 have hr3 := hm3.row len_RM)
              | (refine wp_cut _ encRM 8 rfl (.tmp 71) (some (.tmp 72)) none 24 rfl 31 Try.underlying24 size31 w3.heap.size A' m.length c' rfl m rfl hr3 (posL m x) m.length rfl (fun h => by cases h) rfl (fun _ => rfl) (by omega) (by omega) hcap ?_; intro A4 hr4; rw [List.take_length] at hr4)
              | (at_builtin; refine wp_app _ encRM 8 rfl (.tmp 70) (.tmp 73) 24 rfl w.heap.size 31 96 Try.underlying24 info31 (by omega) len_RM one_RM v3 (m.take (posL m x) ++ [x]) rfl hown3 _ A4 _ _ (m.drop (posL m x)) (by simp) rfl hr4 (by simp; omega) (by simp; omega) hs3 ?_
                 intro v5 w5 hown5 hg5 _ _
                 have hb5 : Below w.heap.size w w5 := hb3.grown hg5 hs3 (fun j hj => (hown3.lt j hj).1))
              | fail)
            go_roundw
            case rel => exact ⟨k + 1, insL m x, by go_num, by omega, by have := hls.out; omega, by
                show _ = _
                have := hf.out
                rwa [HX.out, sortedL] at this, hown5, hb5⟩
            case measure => simp [intOf]; omega
          · have hjp := hq1 rfl
            clear hq0 hq1
            go_wp2
            go_roundw
            case rel => exact ⟨j + 1, n', by go_num, hjp, rfl⟩
            case measure => simp [intOf]; omega
    · go_wp2
      go_ret
      refine ⟨_, rfl, ?_, hb⟩
      have := hf.out
      rw [List.drop_eq_nil_of_le (by omega), sortedL] at this
      rw [← this]
      exact hown
end Go.Proofs.Ytgeohmfbodlgeaa
