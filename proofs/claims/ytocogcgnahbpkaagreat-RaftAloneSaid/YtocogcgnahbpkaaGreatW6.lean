/-
  stratalaw16: whole, config.
-/
import Derived.Test.YtocogcgnahbpkaaGreatW1
import Derived.Test.YtocogcgnahbpkaaGreatN11
import Derived.Test.YtocogcgnahbpkaaGreatN4
namespace Go.Proofs.YtocogcgnahbpkaaGreat
open Go.RowKit

def wholeV (n lo hi : Int) : Int := lo + (if n.tmod (hi - lo + 1) < 0 then n.tmod (hi - lo + 1) + hi - lo + 1 else n.tmod (hi - lo + 1))
theorem wholeV_in (n : Int) {lo hi : Int} (h : lo ≤ hi) : lo ≤ wholeV n lo hi ∧ wholeV n lo hi ≤ hi := by
  have hl := tmod_lo n (m := hi - lo + 1) (by omega)
  have hh := tmod_hi n (m := hi - lo + 1) (by omega)
  unfold wholeV
  split <;> omega

set_option maxRecDepth 100000 in
set_option maxHeartbeats 1000000 in
theorem whole_any (n lo hi : Int) (w : World) (h0 : 0 ≤ lo) (h1 : lo ≤ hi) (h2 : hi ≤ 1000000) :
    Calls Tryz.prog 24 #[.int .i64 n, .int .i64 lo, .int .i64 hi] w fun e w' => e = .returned (.int .i64 (wholeV n lo hi)) ∧ w' = w := by
  obtain ⟨m, hm⟩ : ∃ m, m = hi - lo + 1 := ⟨_, rfl⟩
  have hl := tmod_lo n (m := m) (by omega)
  have hh := tmod_hi n (m := m) (by omega)
  have w1 : IntKind.i64.wrap (hi - lo) = hi - lo := IntWalk.i64_in _ (by omega)
  have w2 : IntKind.i64.wrap (hi - lo + 1) = m := by rw [IntWalk.i64_in _ (by omega), hm]
  have hm0 : m ≠ 0 := by omega
  have HM := Lib.hid hm
  have HV : Hid (wholeV n lo hi = lo + (if n.tmod m < 0 then n.tmod m + hi - lo + 1 else n.tmod m)) := Lib.hid (by rw [hm]; rfl)
  clear hm
  generalize hr : n.tmod m = r at hl hh HV
  have w3 : IntKind.i64.wrap (r + hi) = r + hi := IntWalk.i64_in _ (by have := HM.out; omega)
  have w4 : IntKind.i64.wrap (r + hi - lo) = r + hi - lo := IntWalk.i64_in _ (by have := HM.out; omega)
  have w5 : IntKind.i64.wrap (r + hi - lo + 1) = r + hi - lo + 1 := IntWalk.i64_in _ (by have := HM.out; omega)
  have w6 : IntKind.i64.wrap (lo + r) = lo + r := IntWalk.i64_in _ (by have := HM.out; omega)
  have w7 : IntKind.i64.wrap (lo + (r + hi - lo + 1)) = lo + (r + hi - lo + 1) := IntWalk.i64_in _ (by have := HM.out; omega)
  by_cases hneg : r < 0
  · go_enter Tryz.func24, Tryz.ntmps24
    go_wp2_with (fail)
    go_ret
    exact ⟨ret_int (by rw [HV.out, if_pos hneg]), rfl⟩
  · go_enter Tryz.func24, Tryz.ntmps24
    go_wp2_with (fail)
    go_ret
    exact ⟨ret_int (by rw [HV.out, if_neg (Int.not_lt.2 hneg)]), rfl⟩

set_option maxRecDepth 100000 in
set_option maxHeartbeats 4000000 in
/-- A configuration of one node. -/
theorem config_alone (a b c : Int) (w : World) :
    Calls Tryz.prog 9 #[.int .i64 0, .int .i64 a, .int .i64 b, .int .i64 c, .int .i64 4] w fun e w' => ∃ L Mo Bt A cp, e = .returned (.agg #[.int .i64 0, .slice A 1 cp, .int .i64 L, .int .i64 Mo, .int .i64 Bt, .int .i64 5]) ∧ Own encI 1 3 w' w.heap.size (.slice A 1 cp) [1] ∧ Below w.heap.size w w' ∧
      2 ≤ L ∧ L ≤ 12 ∧ L + 3 ≤ Mo ∧ Mo ≤ L + 15 ∧ 1 ≤ Bt ∧ Bt ≤ L - 1 := by
  go_enter Tryz.func9, Tryz.ntmps9
  go_wp2_with (fail)
  refine (whole_any a 2 12 _ (by decide) (by decide) (by decide)).mono ?_
  rintro e w1 ⟨rfl, rfl⟩
  have hL := wholeV_in a (lo := 2) (hi := 12) (by decide)
  generalize wholeV a 2 12 = L at hL ⊢
  go_upto_region 2 with (fail)
  have hb1 : Below w.heap.size w ((w.alloc (.cells #[.int .i64 0, .slice none 0 0, .int .i64 0, .int .i64 0, .int .i64 0, .int .i64 0] 27)).alloc (.cells #[.int .i64 0, .slice none 0 0, .int .i64 L, .int .i64 0, .int .i64 0, .int .i64 0] 27)) := (below_alloc1 w _).alloc (le_alloc (Nat.le_refl _) _) _
  have hg1 : ((w.alloc (.cells #[.int .i64 0, .slice none 0 0, .int .i64 0, .int .i64 0, .int .i64 0, .int .i64 0] 27)).alloc (.cells #[.int .i64 0, .slice none 0 0, .int .i64 L, .int .i64 0, .int .i64 0, .int .i64 0] 27)).heap[w.heap.size]? = some (.cells #[.int .i64 0, .slice none 0 0, .int .i64 0, .int .i64 0, .int .i64 0, .int .i64 0] 27 (0, 0)) := block_alloc (World.alloc_at w _) _
  have hh1 : ((w.alloc (.cells #[.int .i64 0, .slice none 0 0, .int .i64 0, .int .i64 0, .int .i64 0, .int .i64 0] 27)).alloc (.cells #[.int .i64 0, .slice none 0 0, .int .i64 L, .int .i64 0, .int .i64 0, .int .i64 0] 27)).heap[w.heap.size + 1]? = some (.cells #[.int .i64 0, .slice none 0 0, .int .i64 L, .int .i64 0, .int .i64 0, .int .i64 0] 27 (0, 0)) := by
    have := World.alloc_at (w.alloc (.cells #[.int .i64 0, .slice none 0 0, .int .i64 0, .int .i64 0, .int .i64 0, .int .i64 0] 27)) (.cells #[.int .i64 0, .slice none 0 0, .int .i64 L, .int .i64 0, .int .i64 0, .int .i64 0] 27)
    rwa [World.alloc_size] at this
  obtain ⟨g, hg⟩ : ∃ g, g = w.heap.size := ⟨_, rfl⟩
  rw [← hg] at hg1 hh1
  rw [← hg]
  have HG := Lib.hid hg
  clear hg
  generalize (w.alloc (.cells #[.int .i64 0, .slice none 0 0, .int .i64 0, .int .i64 0, .int .i64 0, .int .i64 0] 27)).alloc (.cells #[.int .i64 0, .slice none 0 0, .int .i64 L, .int .i64 0, .int .i64 0, .int .i64 0] 27) = W1 at hb1 hg1 hh1 ⊢
  have HB1 := Lib.hid hb1
  have HG1 := Lib.hid hg1
  have HH1 := Lib.hid hh1
  have hM := wholeV_in b (lo := 3) (hi := 15) (by decide)
  obtain ⟨M, hMM⟩ : ∃ M, wholeV b 3 15 = M := ⟨_, rfl⟩
  rw [hMM] at hM
  have HM := Lib.hid hMM
  have d2 : W1.cell? ⟨g + 1, 2, none⟩ = some (.int .i64 L) := cell_block hh1 2 _ rfl
  have d3 : W1.cell? ⟨g + 1, 3, none⟩ = some (.int .i64 0) := cell_block hh1 3 _ rfl
  have hf := frozen_block hh1
  have hlh := block_lt hh1
  have w1 : IntKind.i64.wrap (L + M) = L + M := IntWalk.i64_in _ (by omega)
  have hk3 : (W1.setCell ⟨g + 1, 3, none⟩ (.int .i64 (L + M))).drew.cell? ⟨g + 1, 2, none⟩ = some (.int .i64 L) := cell_block (block_setCell hh1 _) 2 _ rfl
  clear hb1 hg1 hh1 hMM
  have HWC := Lib.hid (whole_any b 3 15 W1.drew (by decide) (by decide) (by decide))
  go_region_held3 (fun W => W.cell? ⟨g + 1, 2, none⟩ = some (.int .i64 L)) (first | exact hk3 | go_keep)
    (first | (go_at_call 24; refine HWC.out.mono ?_; rintro e w2 ⟨rfl, rfl⟩; rw [HM.out]))
  have HH2 := Lib.hid (show (W1.setCell ⟨g + 1, 3, none⟩ (.int .i64 (L + M))).drew.heap[g + 1]? = _ from block_setCell HH1.out (.int .i64 (L + M)))
  have HB2 := Lib.hid ((HB1.out.setCell (p := ⟨g + 1, 3, none⟩) (by have := HG.out; show w.heap.size ≤ g + 1; omega) (.int .i64 (L + M))).drew)
  have HG2 := Lib.hid (show (W1.setCell ⟨g + 1, 3, none⟩ (.int .i64 (L + M))).drew.heap[g]? = _ from (Below.heap_setCell _ _ _ _ (fun e => by simp only at e; omega)).trans HG1.out)
  clear hk3 w1 d2 d3 hf hlh HB1 HH1 HG1 HWC
  generalize (W1.setCell ⟨g + 1, 3, none⟩ (.int .i64 (L + M))).drew = W2 at HH2 HB2 HG2 ⊢
  have d2 : W2.cell? ⟨g + 1, 2, none⟩ = some (.int .i64 L) := cell_block HH2.out 2 _ rfl
  have d4 : W2.cell? ⟨g + 1, 4, none⟩ = some (.int .i64 0) := cell_block HH2.out 4 _ rfl
  have hf := frozen_block HH2.out
  have hlh := block_lt HH2.out
  have w1 : IntKind.i64.wrap (L - 1) = L - 1 := IntWalk.i64_in _ (by omega)
  have hN := wholeV_in c (lo := 1) (hi := L - 1) (by omega)
  obtain ⟨N, hNN⟩ : ∃ N, wholeV c 1 (L - 1) = N := ⟨_, rfl⟩
  rw [hNN] at hN
  have HWC := Lib.hid (whole_any c 1 (L - 1) W2 (by decide) (by omega) (by omega))
  rw [hNN] at HWC
  go_wp2_with (fail)
  refine HWC.out.mono ?_
  rintro e w2 ⟨rfl, rfl⟩
  go_wp2_with (fail)
  have HH3 := Lib.hid (block_setCell (o := 4) HH2.out (.int .i64 N))
  have HB3 := Lib.hid (HB2.out.setCell (p := ⟨g + 1, 4, none⟩) (by have := HG.out; show w.heap.size ≤ g + 1; omega) (.int .i64 N))
  have HG3 := Lib.hid ((show (w2.setCell ⟨g + 1, 4, none⟩ (.int .i64 N)).heap[g]? = _ from Below.heap_setCell _ _ _ _ (fun e => by simp only at e; omega)).trans HG2.out)
  clear d2 d4 hf hlh w1 HWC HH2 HB2 HG2
  generalize w2.setCell ⟨g + 1, 4, none⟩ (.int .i64 N) = W3 at HH3 HB3 HG3 ⊢
  refine (whole_any 4 1 16 W3 (by decide) (by decide) (by decide)).mono ?_
  rintro e w3 ⟨rfl, rfl⟩
  rw [show wholeV 4 1 16 = 5 by decide]
  have d5 : w3.cell? ⟨g + 1, 5, none⟩ = some (.int .i64 0) := cell_block HH3.out 5 _ rfl
  have hf := frozen_block HH3.out
  have hlh := block_lt HH3.out
  go_wp2_with (fail)
  have HH4 := Lib.hid (show (w3.setCell ⟨g + 1, 5, none⟩ (.int .i64 5)).heap[g + 1]? = some (.cells #[.int .i64 0, .slice none 0 0, .int .i64 L, .int .i64 (L + M), .int .i64 N, .int .i64 5] 27 (0, 0)) by rw [block_setCell (o := 5) HH3.out (.int .i64 5)]; rfl)
  have HB4 := Lib.hid (HB3.out.setCell (p := ⟨g + 1, 5, none⟩) (by have := HG.out; show w.heap.size ≤ g + 1; omega) (.int .i64 5))
  have HG4 := Lib.hid ((show (w3.setCell ⟨g + 1, 5, none⟩ (.int .i64 5)).heap[g]? = _ from Below.heap_setCell _ _ _ _ (fun e => by simp only at e; omega)).trans HG3.out)
  clear d5 hf hlh HH3 HB3 HG3
  generalize w3.setCell ⟨g + 1, 5, none⟩ (.int .i64 5) = W4 at HH4 HB4 HG4 ⊢
  go_loopw [12] (fun i wr => (i = .int .i64 1 ∧ wr = W4) ∨ (i = .int .i64 2 ∧ ∃ A cp, Own encI 1 3 wr w.heap.size (.slice A 1 cp) [1] ∧ wr.heap[g + 1]? = some (.cells #[.int .i64 0, .slice A 1 cp, .int .i64 L, .int .i64 (L + M), .int .i64 N, .int .i64 5] 27 (0, 0)) ∧ wr.heap[g]? = W4.heap[g]? ∧ Below w.heap.size w wr)) (fun i _ => 3 - (intOf i).toNat)
  case atStart => exact .inl ⟨rfl, rfl⟩
  case round =>
    rcases hrel with ⟨rfl, rfl⟩ | ⟨rfl, A, cp, hown, hH, hG, hB⟩
    · go_wp2_with (fail)
      refine (whole_any 0 1 5 wr (by decide) (by decide) (by decide)).mono ?_
      rintro e w5 ⟨rfl, rfl⟩
      rw [show wholeV 0 1 5 = 1 by decide]
      have d1 : w5.cell? ⟨g + 1, 1, none⟩ = some (.slice none 0 0) := cell_block HH4.out 1 _ rfl
      have hlh := block_lt HH4.out
      have hrow : Row encI 1 (w5.alloc (.cells #[.int .i64 1] 3)) (w5.heap.size + 1) (some ⟨w5.heap.size, 0, none⟩) [1] := .inr ⟨_, _, rfl, Nat.lt_succ_self _, fun k y hk j v hv => by
        have hk0 : k = 0 := by have := (List.getElem?_eq_some_iff.1 hk).1; simp at this; exact this
        subst hk0
        simp at hk; subst hk
        match j, hv with
        | 0, hv => simp [encI] at hv; subst hv; simp⟩
      go_wp2_with (at_builtin; refine wp_app _ encI 1 rfl _ _ 25 rfl w5.heap.size 3 8 Tryz.underlying25 info3 (by omega) len_I one_I (.slice none 0 0) [] rfl Own.nil _ _ 1 1 [1] rfl rfl hrow (by decide) (by decide) (by simp) ?_; intro v6 w6 hown6 hg6 hat6 _; have hh6 := (hg6.block (g + 1) (by simp; omega) (by simp [Value.ownBlock])).trans (block_alloc HH4.out _); have d16 : w6.cell? ⟨g + 1, 1, none⟩ = some (.slice none 0 0) := cell_block hh6 1 _ rfl; have hf6 := frozen_block hh6; have hlh6 := block_lt hh6; obtain ⟨A6, c6, rfl⟩ := hown6.form)
      have hgl : g < w5.heap.size := by omega
      have hwl : w.heap.size ≤ w5.heap.size := HB4.out.size
      refine ⟨.inr ⟨rfl, A6, c6, ?_, ?_, ?_, ?_⟩, by simp [intOf]⟩
      · exact Own.weaken (show Own encI 1 3 (w6.setCell ⟨g + 1, 1, none⟩ (.slice A6 1 c6)) w5.heap.size (.slice A6 1 c6) [1] from ownsRow_setCell_below hown6 hlh _) hwl
      · rw [block_setCell hh6]; rfl
      · exact (Below.heap_setCell _ _ _ _ (fun e => by simp only at e; omega)).trans ((hg6.block g (by simp; omega) (by simp [Value.ownBlock])).trans (Below.heap_alloc _ _ _ hgl))
      · exact ((HB4.out.alloc hwl _).grown hg6 (le_alloc hwl _) (by intro j hj; simp [Value.ownBlock] at hj)).setCell (p := ⟨g + 1, 1, none⟩) (by have := HG.out; show w.heap.size ≤ g + 1; omega) _
    · obtain ⟨e0, e1, e2, e3, e4, e5⟩ := cells6 hH
      have hG' := hG.trans HG4.out
      obtain ⟨z0, z1, z2, z3, z4, z5⟩ := cells6 hG'
      have hfg := frozen_block hG'
      have hlg := block_lt hG'
      have hlh := block_lt hH
      have HH := Lib.hid hH
      have HGG := Lib.hid hG'
      clear hH hG hG'
      go_wp2_with (fail)
      refine (whole_any 0 1 5 wr (by decide) (by decide) (by decide)).mono ?_
      rintro e w5 ⟨rfl, rfl⟩
      rw [show wholeV 0 1 5 = 1 by decide]
      go_wp2_with (fail)
      have hot : ∀ i, i ≠ g → ((((((w5.setCell ⟨g, 0, none⟩ (.int .i64 0)).setCell ⟨g, 1, none⟩ (.slice A 1 cp)).setCell ⟨g, 2, none⟩ (.int .i64 L)).setCell ⟨g, 3, none⟩ (.int .i64 (L + M))).setCell ⟨g, 4, none⟩ (.int .i64 N)).setCell ⟨g, 5, none⟩ (.int .i64 5)).heap[i]? = w5.heap[i]? := fun i hi => by
        rw [Below.heap_setCell _ _ _ _ hi, Below.heap_setCell _ _ _ _ hi, Below.heap_setCell _ _ _ _ hi, Below.heap_setCell _ _ _ _ hi, Below.heap_setCell _ _ _ _ hi, Below.heap_setCell _ _ _ _ hi]
      have hgf : ((((((w5.setCell ⟨g, 0, none⟩ (.int .i64 0)).setCell ⟨g, 1, none⟩ (.slice A 1 cp)).setCell ⟨g, 2, none⟩ (.int .i64 L)).setCell ⟨g, 3, none⟩ (.int .i64 (L + M))).setCell ⟨g, 4, none⟩ (.int .i64 N)).setCell ⟨g, 5, none⟩ (.int .i64 5)).heap[g]? = some (.cells #[.int .i64 0, .slice A 1 cp, .int .i64 L, .int .i64 (L + M), .int .i64 N, .int .i64 5] 27 (0, 0)) := by
        rw [block_setCell (block_setCell (block_setCell (block_setCell (block_setCell (block_setCell HGG.out _) _) _) _) _) _]
        simp
      have hB6 : Below w.heap.size w ((((((w5.setCell ⟨g, 0, none⟩ (.int .i64 0)).setCell ⟨g, 1, none⟩ (.slice A 1 cp)).setCell ⟨g, 2, none⟩ (.int .i64 L)).setCell ⟨g, 3, none⟩ (.int .i64 (L + M))).setCell ⟨g, 4, none⟩ (.int .i64 N)).setCell ⟨g, 5, none⟩ (.int .i64 5)) := by
        have hg0 : w.heap.size ≤ g := by have := HG.out; omega
        exact (((((hB.setCell (p := ⟨g, 0, none⟩) hg0 _).setCell (p := ⟨g, 1, none⟩) hg0 _).setCell (p := ⟨g, 2, none⟩) hg0 _).setCell (p := ⟨g, 3, none⟩) hg0 _).setCell (p := ⟨g, 4, none⟩) hg0 _).setCell (p := ⟨g, 5, none⟩) hg0 _
      have hown' := hown.same (w' := (((((w5.setCell ⟨g, 0, none⟩ (.int .i64 0)).setCell ⟨g, 1, none⟩ (.slice A 1 cp)).setCell ⟨g, 2, none⟩ (.int .i64 L)).setCell ⟨g, 3, none⟩ (.int .i64 (L + M))).setCell ⟨g, 4, none⟩ (.int .i64 N)).setCell ⟨g, 5, none⟩ (.int .i64 5)) (fun k hk => hot k (fun e => by
        obtain ⟨cur, hc⟩ := hown.typed k hk
        rw [e] at hc
        exact absurd (ne_typed hc HGG.out) (by decide)))
      try simp only [Exit.inBlock, Exit.then]
      refine bodyPost_ret (v := .agg #[.int .i64 0, .slice A 1 cp, .int .i64 L, .int .i64 (L + M), .int .i64 N, .int .i64 5]) ?_ rfl ⟨L, L + M, N, A, cp, rfl, hown', hB6, hL.1, hL.2, by omega, by omega, hN.1, hN.2⟩
      exact results_cell_row rfl _ _ g 27 _ (0, 0) _ rfl hgf Tryz.underlying27 rfl (by kernel_rfl)
end Go.Proofs.YtocogcgnahbpkaaGreat
