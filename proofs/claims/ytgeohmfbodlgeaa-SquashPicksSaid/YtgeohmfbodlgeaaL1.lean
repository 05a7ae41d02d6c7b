/-
  The walk of the law SquashPicks.
-/
import Derived.Test.YtgeohmfbodlgeaaJ1
import Derived.Deep.RegionWith
import Derived.Deep.DeepCutAuto
namespace Go.Proofs.Ytgeohmfbodlgeaa
open Go.RowKit

def rm (n b : Int) : RM := ⟨n, 0, 0, 0, 0, b, none, 0, 0, none, 0, 0⟩
def three : List RM := [rm 3 900, rm 2 150, rm 1 100]
theorem good_val : pickS 2 2 4 three = ([2, 1], false, 0) := by kernel_rfl
theorem three_ok : ∀ x ∈ three, x.ok := by
  intro x hx
  simp only [three, List.mem_cons, List.not_mem_nil, or_false] at hx
  rcases hx with rfl | rfl | rfl <;> simp [RM.ok, rm]

def cells3 : Array Value := #[.int .i64 3, .int .i64 0, .int .i64 0, .int .i64 0, .int .i64 0, .int .i64 900, .slice none 0 0, .slice none 0 0,
  .int .i64 2, .int .i64 0, .int .i64 0, .int .i64 0, .int .i64 0, .int .i64 150, .slice none 0 0, .slice none 0 0,
  .int .i64 1, .int .i64 0, .int .i64 0, .int .i64 0, .int .i64 0, .int .i64 100, .slice none 0 0, .slice none 0 0]
theorem row_three (w : World) (g : Nat) (hg : g = w.heap.size) : Runs (w.alloc (.cells cells3 31)) (g + 1) (some ⟨g, 0, none⟩) three :=
  .inr ⟨_, _, rfl, by omega, fun k y hk j v hv => by
    subst hg
    have hj : j < 8 := by have := (List.getElem?_eq_some_iff.1 hv).1; rwa [len_RM] at this
    have hk3 : k < 3 := (List.getElem?_eq_some_iff.1 hk).1
    match k, hk3, hk with
    | 0, _, hk | 1, _, hk | 2, _, hk =>
      simp [three] at hk; subst hk
      match j, hj, hv with
      | 0, _, hv | 1, _, hv | 2, _, hv | 3, _, hv | 4, _, hv | 5, _, hv | 6, _, hv | 7, _, hv => simp [encRM, rm] at hv; subst hv; simp [cells3]⟩

theorem row_ints2 (w : World) (x y : Int) (g : Nat) (hg : g = w.heap.size) : Ints (w.alloc (.cells #[.int .i64 x, .int .i64 y] 3)) (g + 1) (some ⟨g, 0, none⟩) [x, y] :=
  .inr ⟨_, _, rfl, by omega, fun k z hk j v hv => by
    subst hg
    have hj : j < 1 := by have := (List.getElem?_eq_some_iff.1 hv).1; rwa [len_I] at this
    have hk3 : k < 2 := (List.getElem?_eq_some_iff.1 hk).1
    match k, hk3, hk with
    | 0, _, hk | 1, _, hk =>
      simp at hk; subst hk
      match j, hj, hv with
      | 0, _, hv => simp [encI] at hv; subst hv; simp⟩

theorem Row.pre {α : Type} {enc : α → List Value} {sz : Nat} {w : World} {B : Nat} {A : Option Addr} {xs ys : List α} (h : Row enc sz w B A (xs ++ ys)) : Row enc sz w B A xs := by
  rcases h with h | ⟨b, o, e, hb, hc⟩
  · exact .inl (List.append_eq_nil_iff.1 h).1
  · exact .inr ⟨b, o, e, hb, fun k x hk => hc k x (by rw [List.getElem?_append_left (List.getElem?_eq_some_iff.1 hk).1]; exact hk)⟩
theorem Own.addr {α : Type} {enc : α → List Value} {sz : Nat} {e : TypeId} {w : World} {base : Nat} {v : Value} {xs : List α} (h : Own enc sz e w base v xs) (hx : 0 < xs.length) : ∃ g c, v = .slice (some ⟨g, 0, none⟩) xs.length c ∧ xs.length ≤ c ∧ base ≤ g ∧ g < w.heap.size := by
  rcases h.2 with ⟨_, h0⟩ | ⟨g, cap, cur, rfl, hb, hg, h1, _⟩
  · omega
  · exact ⟨g, cap, rfl, h1, hb, (Array.getElem?_eq_some_iff.1 hg).1⟩

theorem Own.most {α : Type} {enc : α → List Value} {sz : Nat} {e : TypeId} {w : World} {base : Nat} {v : Value} {xs : List α} (h : Own enc sz e w base v xs) : xs.length ≤ 9223372036854775807 := by
  rcases h.2 with ⟨_, h0⟩ | ⟨g, cap, cur, rfl, hb, hg, h1, h2, _⟩
  · omega
  · unfold maxLen at h2; omega

theorem same_yes (A1 A2 : Option Addr) (n1 n2 c1 c2 : Nat) (xs : List Int) (w : World) (B : Nat) (h1 : Ints w B A1 xs) (h2 : Ints w B A2 xs) (e1 : n1 = xs.length) (e2 : n2 = xs.length) (hn : xs.length ≤ 9223372036854775807) :
    Calls Try.prog 5 #[.slice A1 n1 c1, .slice A2 n2 c2] w fun e w' => e = .returned (.bool true) ∧ Below w.heap.size w w' := by
  subst e1
  rw [e2]
  refine (sameInts_any A1 A2 c1 c2 xs xs w B h1 h2 hn hn).mono ?_
  rintro e w' ⟨rfl, n, rfl⟩
  exact ⟨ret_bool (by simp), below_drewN' (Below.refl _ _) n⟩

set_option maxRecDepth 100000 in
set_option maxHeartbeats 4000000 in
theorem law_walk (W R M : Int) (A : Option Addr) (c : Nat) (xs : List RM) (w : World) (hx : Runs w w.heap.size A xs) (hn : xs.length * 96 ≤ 140737488351232) (hok : ∀ x ∈ xs, x.ok) :
    Calls Try.prog 3 #[.agg #[.int .i64 W, .int .i64 R, .int .i64 M], .slice A xs.length c] w fun e w' => e = .returned (.bool true) ∧ Below w.heap.size w w' := by
  have HG := Lib.hid good_val
  obtain ⟨p0, p1, p2⟩ := @policy_at w W R M
  have hw0 : Below w.heap.size w (w.alloc (.cells #[.int .i64 W, .int .i64 R, .int .i64 M] 23)) := (Below.refl _ _).alloc (Nat.le_refl _) _
  have HF := Lib.hid (Firsts.mk hw0 p0 p1 p2 (by simp) : Firsts w A W R M xs (w.alloc (.cells #[.int .i64 W, .int .i64 R, .int .i64 M] 23)))
  clear hw0 p0 p1 p2
  go_enter Try.func3, Try.ntmps3
  go_wp2_with fail
  refine (pickC 2 2 4 _ 3 three _ ((row_three _ _ (by simp)).more (by simp)) (by decide) three_ok).mono ?_
  rintro e w2 ⟨v1, rfl, hown1, hb1⟩
  rw [HG.out] at hown1
  rw [HG.out]
  have hF2 : Firsts w A W R M xs w2 := HF.out.keep ((((Below.refl _ _).alloc (Nat.le_refl _) _).alloc (by simp) _).trans (hb1.mono (by simp)))
  have HF2 := Lib.hid hF2
  obtain ⟨A1, c1, rfl⟩ := hown1.form
  have hrow1 : Ints w2 w2.heap.size A1 [2, 1] := hown1.row len_I
  clear hF2 HF hown1 hb1
  go_wp2_with fail
  refine (same_yes A1 _ _ 2 c1 2 [2, 1] _ (w2.heap.size + 1) ((hrow1.alloc (Nat.le_refl _) _).more (by omega)) (row_ints2 w2 2 1 _ rfl) rfl rfl (by decide)).mono ?_
  rintro e w3 ⟨rfl, hb3⟩
  have HF3 := Lib.hid (HF2.out.keep (((Below.refl _ _).alloc (Nat.le_refl _) _).trans (hb3.mono (by simp))))
  have hx3 : Runs w3 w3.heap.size A xs := (hx.below HF3.out.below).more HF3.out.below.size
  clear hb3 HF2 hrow1
  go_upto_region 8 with (first
    | (go_at_call 6; refine (num_any _ _).mono ?_; rintro e w' ⟨rfl, rfl⟩)
    | (at_builtin; refine wp_app _ encRM 8 rfl (.tmp 41) (.tmp 42) 24 rfl w3.heap.size 31 96 Try.underlying24 info31 (by omega) len_RM one_RM (.slice none 0 0) [] rfl Own.nil _ A _ _ xs rfl rfl hx3 (by simp; omega) (by simp; omega) (by simp) ?_
       intro v4 w4 hown4 hg4 _ _
       have hs4 := hg4.size
       rw [List.nil_append] at hown4)
    | (at_builtin; refine wp_app _ encRM 8 rfl (.tmp 44) (.tmp 46) 24 rfl w3.heap.size 31 96 Try.underlying24 info31 (by omega) len_RM one_RM v4 xs rfl (hown4.alloc _) _ _ 1 1 [rm (-9) 0] rfl rfl (row_one_RM w4 (rm (-9) 0) _ rfl) (by simp; omega) (by simp; omega) (by simp; omega) ?_
       intro v5 w5 hown5 hg5 _ _))
  have hb35 : Below w3.heap.size w3 w5 := (((Below.refl _ _).grown hg4 (Nat.le_refl _) (by simp [Value.ownBlock])).alloc hs4 _).grown hg5 (by simp; omega) (fun j hj => (hown4.lt j hj).1)
  have HF5 := Lib.hid (HF3.out.keep hb35)
  have hlen5 : (xs ++ [rm (-9) 0]).length = xs.length + 1 := by simp
  obtain ⟨g5, c5, rfl, hc5, hg5a, hg5b⟩ := hown5.addr (by rw [hlen5]; omega)
  have HO5 := Lib.hid hown5
  rw [hlen5] at hc5 ⊢
  have hr5 : Runs w5 w5.heap.size (some ⟨g5, 0, none⟩) (xs ++ [rm (-9) 0]) := Own.row (c := c5) len_RM hown5
  have HR5 := Lib.hid hr5
  clear hown4 hg4 hg5 hown5 hb35 hs4 hx3 hr5 hlen5
  obtain ⟨f5b, q0, q1, q2, q5⟩ := HF5.out
  have hpk : Calls Try.prog 4 #[.agg #[.int .i64 W, .int .i64 R, .int .i64 M], .slice (some ⟨g5, 0, none⟩) xs.length c5] w5.drew (Picks w5.drew (pickS W R M xs)) := pickC W R M _ c5 xs w5.drew HR5.out.pre (by omega) hok
  have hrf := fun w6 hx6 => refC W R M A c xs w6 hx6 (by omega) hok
  have hpk3 := fun w6 hx6 => pickC W R M A c xs w6 hx6 (by omega) hok
  have hxs3 : xs.length ≤ 1466015503704 := by omega
  generalize pickS W R M xs = S at hpk hrf hpk3
  obtain ⟨sl, sb, se⟩ := S
  unfold Picks at hpk hrf hpk3
  simp only at hpk hrf hpk3
  have HPK := Lib.hid hpk
  have HRF := Lib.hid hrf
  have HP3 := Lib.hid hpk3
  clear hpk hrf hpk3
  go_cut [6, 7, 8] (fun a b d wx => ∃ v, a = v ∧ b = .bool sb ∧ d = .int .i64 se ∧ Own encI 1 3 wx w5.heap.size v sl ∧ Below w5.heap.size w5 wx)
  case first =>
    go_region_with (first | (go_at_call 4; (refine HPK.out.mono ?_); rintro e w6 ⟨v6, rfl, hown6, hb6⟩))
    all_goals go_wp2_with fail
    all_goals go_meet
    all_goals exact ⟨v6, rfl, rfl, rfl, hown6, hb6.os, hb6.tape, hb6.output, hb6.size, hb6.block⟩
  case rest =>
    obtain ⟨v6, rfl, rfl, rfl, hown6, hb6⟩ := hcut
    have HF6 := Lib.hid (HF5.out.keep hb6)
    have HR6 := Lib.hid ((HR5.out.below hb6).more hb6.size)
    obtain ⟨f6b, r0, r1, r2, r5⟩ := HF6.out
    have hx6 : Runs wc wc.heap.size A xs := (hx.below f6b).more f6b.size
    have hb56 := hb6.size
    have hw5 : w.heap.size < w5.heap.size := q5
    have hsl : sl.length ≤ 9223372036854775807 := hown6.most
    clear q0 q1 q2 q5 hb6
    go_wp2_with (first
      | (go_at_call 7; refine (HRF.out wc hx6).mono ?_; rintro e w7 ⟨v7, rfl, hown7, hb7⟩
         obtain ⟨A6, c6, rfl⟩ := hown6.form
         obtain ⟨A7, c7, rfl⟩ := hown7.form
         have hA6lt : ∀ k, (Value.slice A6 sl.length c6).ownBlock = some k → k < wc.heap.size := fun k hk => (hown6.lt k hk).2
         have hown67 : Own encI 1 3 w7 w5.heap.size (.slice A6 sl.length c6) sl := hown6.below hb7 (Nat.le_refl _)
         have HF7 := Lib.hid (HF6.out.keep hb7)
         have HR7 := Lib.hid ((HR6.out.below hb7).more hb7.size)
         have h67 := hb7.size
         clear hown6 hb7 r0 r1 r2 r5)
      | (go_at_call 5; refine (same_yes A6 A7 _ _ c6 c7 sl w7 w7.heap.size (Own.row len_I hown67) (Own.row len_I hown7) rfl rfl hsl).mono ?_; rintro e w8 ⟨rfl, hb8⟩
         have HA8 := Lib.hid (hown67.below hb8 (Nat.le_refl _))
         have HB8 := Lib.hid (hown7.below hb8 (Nat.le_refl _))
         have HF8 := Lib.hid (HF7.out.keep hb8)
         have HR8 := Lib.hid ((HR7.out.below hb8).more hb8.size)
         have h78 := hb8.size
         obtain ⟨_, _, e8, _, d8, _⟩ := runs_at HR8.out (show (xs ++ [rm (-9) 0])[xs.length]? = some (rm (-9) 0) by simp)
         injection e8 with e8
         injection e8 with e8 e8'
         subst e8 e8'
         rw [Nat.zero_add] at d8
         have d8' : w8.cell? ⟨g5, xs.length * 8, none⟩ = some (.int .i64 (-9)) := d8
         clear hown67 hown7 hb8 d8)
      | (go_at_call 6; refine (num_any _ _).mono ?_; rintro e w' ⟨rfl, rfl⟩))
    have hx8 : Runs w8 w8.heap.size A xs := (hx.below HF8.out.below).more HF8.out.below.size
    clear d8'
    go_loopw [13] (fun i wi => ∃ (k n : Nat), i = .int .i64 k ∧ k ≤ xs.length ∧ wi = w8.drewN n) (fun i _ => xs.length - (intOf i).toNat)
    case atStart => exact ⟨0, 0, rfl, by omega, rfl⟩
    case round =>
      obtain ⟨k, n, rfl, hk, rfl⟩ := hrel
      by_cases hlt : k < xs.length
      · have hkx := List.getElem?_eq_getElem hlt
        obtain ⟨ba, o, rfl, _, c0, _, _, _, _, c5, _, _⟩ := runs_at hx8 hkx
        obtain ⟨_, _, e9, _, d0, _, _, _, _, d5, _, _⟩ := runs_at HR8.out (show (xs ++ [rm (-9) 0])[k]? = some xs[k] by rw [List.getElem?_append_left hlt]; exact hkx)
        injection e9 with e9
        injection e9 with e9 e9'
        subst e9 e9'
        rw [Nat.zero_add] at d0 d5
        clear hkx
        generalize xs[k] = x at c0 c5 d0 d5
        go_wp2_with fail
        go_quiet (fail)
        go_wp2
        go_roundw
        case rel => exact ⟨k + 1, _, by go_num, by omega, rfl⟩
        case measure => simp [intOf]; omega
      · have hk9 : xs.length ≤ k := by omega
        clear hlt
        go_wp2_with fail
        go_loopw [14] (fun i wi => ∃ (j : Nat), i = .int .i64 j ∧ j ≤ sl.length ∧ (∃ ys, wi.ownsRow w5.heap.size 3 1 (.slice A6 sl.length c6) sl.length ys) ∧ w8.grownBy wi (Value.slice A6 sl.length c6).ownBlock) (fun i _ => sl.length - (intOf i).toNat)
        case atStart => exact ⟨0, rfl, by omega, ⟨_, HA8.out.drewN n⟩, ⟨rfl, rfl, rfl, Nat.le_refl _, fun _ _ _ => rfl⟩⟩
        case round =>
          obtain ⟨j, rfl, hj, ⟨ys, hys⟩, hg⟩ := hrel
          by_cases hjl : j < sl.length
          · have hys' := hys
            rcases hys.2 with ⟨_, h0⟩ | ⟨g, cap, cur, hv, hgb, hgc, hgn, _⟩
            · omega
            · injection hv with hA _ hc
              subst hA hc
              have hfr := hys.frozenAt j
              obtain ⟨hst1, hst2⟩ := hys.stored j (.int .i64 (-1))
              have hylen := hys.1
              have hcell : wr.cell? ⟨g, j, none⟩ = some (ys[j]'(by omega)) := by rw [hys.cellAt j (by omega)]; exact List.getElem?_eq_getElem (by omega)
              generalize ys[j]'(by omega) = u at hcell
              have HST1 := Lib.hid hst1
              have HST2 := Lib.hid (hg.trans hst2)
              clear hst1 hst2 hys hys' hgc hgn hg hylen
              go_wp2_with fail
              go_roundw
              case rel => exact ⟨j + 1, by go_num, by omega, ⟨_, HST1.out⟩, HST2.out⟩
              case measure => simp [intOf]; omega
          · have hbw : Below w5.heap.size w8 wr := (Below.refl _ _).grown hg (by omega) (fun k hk => (World.ownsRow.lt hys k hk).1)
            obtain ⟨f8b, z0, z1, z2, z5⟩ := HF8.out
            have hb58 : Below w.heap.size w wr := f8b.trans (hbw.mono f5b.size)
            have y0 := (hbw.cell (p := ⟨w.heap.size, 0, none⟩) (by show w.heap.size < _; exact hw5)).trans z0
            have y1 := (hbw.cell (p := ⟨w.heap.size, 1, none⟩) (by show w.heap.size < _; exact hw5)).trans z1
            have y2 := (hbw.cell (p := ⟨w.heap.size, 2, none⟩) (by show w.heap.size < _; exact hw5)).trans z2
            have hBr : Own encI 1 3 wr wc.heap.size (.slice A7 sl.length c7) sl := HB8.out.kept hg (by
              cases hA7 : A7 with
              | none => exact .inl rfl
              | some a7 =>
                right
                subst hA7
                have h1 := (HB8.out.lt a7.block rfl).1
                intro e
                have h2 := (HA8.out.lt a7.block (by rw [← e]; rfl)).2
                have h3 := hA6lt a7.block (by rw [← e]; rfl)
                omega)
            have hxr : Runs wr wr.heap.size A xs := (hx.below hb58).more hb58.size
            have HBR := Lib.hid hBr
            clear z0 z1 z2 hbw hys
            go_wp2_with (first
              | (go_at_call 4; refine (HP3.out wr hxr).mono ?_; rintro e w9 ⟨v9, rfl, hown9, hb9⟩
                 obtain ⟨A9, c9, rfl⟩ := hown9.form
                 have hB9 : Own encI 1 3 w9 wc.heap.size (.slice A7 sl.length c7) sl := HBR.out.below hb9 (Nat.le_refl _)
                 clear y0 y1 y2)
              | (go_at_call 5; refine (same_yes A9 A7 _ _ c9 c7 sl w9 w9.heap.size (Own.row len_I hown9) (Own.row len_I hB9) rfl rfl hsl).mono ?_; rintro e w10 ⟨rfl, hb10⟩))
            go_ret
            exact ⟨rfl, hb58.trans ((hb9.mono hb58.size).trans (hb10.mono (Nat.le_trans hb58.size hb9.size)))⟩
end Go.Proofs.Ytgeohmfbodlgeaa
