/-
  The law ClusterRoutes: for all splits and rows it returns true.
-/
import Derived.Test.YtjoaldaldcpfeaaGreatDoorG1
import Derived.Test.YtjoaldaldcpfeaaGreatDoorB3
namespace Go.Proofs.YtjoaldaldcpfeaaGreatDoor
open Go.RowKit

def wkR : RC := ⟨0, none, 0, 0, 3, 8, 1, 4, 256, 8, 1048576, 60, 4, 4, 16, 4096⟩
def wkC (g : Nat) (sA : Option Addr) (sn sc : Nat) : CF := ⟨1, 1048576, some ⟨g, 0, none⟩, 1, 1, sA, sn, sc, wkR⟩
def wkF : FM := ⟨{ data := #[102] }, 2, 0⟩

set_option maxRecDepth 100000 in
set_option maxHeartbeats 4000000 in
theorem works_any (sA : Option Addr) (sn sc : Nat) (w : World) : Calls Tryz.prog 9 #[.int .i64 1, .slice sA sn sc] w
    fun e w' => ∃ g, e = .returned (.agg (wkC g sA sn sc).cells) ∧ Row encFM 3 w' w'.heap.size (some ⟨g, 0, none⟩) [wkF] ∧ Below w.heap.size w w' := by
  go_enter Tryz.func9, Tryz.ntmps9
  go_wp2_with (fail)
  refine bodyPost_ret (results_cell_row rfl _ _ w.heap.size 36 _ (0, 0) _ rfl (block_alloc (World.alloc_at w _) _) Tryz.underlying36 rfl (by kernel_rfl)) rfl ?_
  refine ⟨w.heap.size + 1, rfl, ?_, (below_alloc1 w _).alloc (by simp) _⟩
  have := row_one (enc := encFM) (sz := 3) (w.alloc (.cells (wkC (w.heap.size + 1) sA sn sc).cells 36)) 66 wkF (w.heap.size + 2) (by simp only [World.alloc_size]; omega)
  rw [World.alloc_size] at this
  rw [World.alloc_size, World.alloc_size]
  exact this

set_option maxRecDepth 100000 in
set_option maxHeartbeats 4000000 in
theorem law_routes (sA rA : Option Addr) (sn sc rn rc : Nat) (ps rs : List (BR × List Int)) (w : World) (hs : Rows2 w w.heap.size sA ps) (hsn : sn = ps.length) (hsl : ps.length ≤ 140737488355328) (hr : Rows2 w w.heap.size rA rs) (hrn : rn = rs.length) (hrl : rs.length ≤ 140737488355328) :
    Calls Tryz.prog 4 #[.slice sA sn sc, .slice rA rn rc] w fun e w' => e = .returned (.bool true) ∧ Below w.heap.size w w' := by
  subst hsn hrn
  have HS := Lib.hid hs
  have HR := Lib.hid hr
  clear hs hr
  go_enter Tryz.func4, Tryz.ntmps4
  go_wp2_with (fail)
  refine (works_any sA ps.length sc w).mono ?_
  rintro e w1 ⟨g, rfl, hrow, hb1⟩
  have eL : (wkC g sA ps.length sc).cells = #[.int .i64 1, .int .i64 1048576, .slice (some ⟨g, 0, none⟩) 1 1, .slice sA ps.length sc, .int .i64 0, .slice none 0 0, .int .i64 3, .int .i64 8, .int .i64 1, .int .i64 4, .int .i64 256, .int .i64 8, .int .i64 1048576, .int .i64 60, .int .i64 4, .int .i64 4, .int .i64 16, .int .i64 4096] := rfl
  rw [eL]
  clear eL
  go_upto_region 2 with (fail)
  have hbx := below_alloc1 w1 (.cells (wkC g sA ps.length sc).cells 36)
  have HX : Hid ((w1.alloc (.cells #[.int .i64 1, .int .i64 1048576, .slice (some ⟨g, 0, none⟩) 1 1, .slice sA ps.length sc, .int .i64 0, .slice none 0 0, .int .i64 3, .int .i64 8, .int .i64 1, .int .i64 4, .int .i64 256, .int .i64 8, .int .i64 1048576, .int .i64 60, .int .i64 4, .int .i64 4, .int .i64 16, .int .i64 4096] 36)).heap[w1.heap.size]? = some (.cells (wkC g sA ps.length sc).cells 36 (0, 0))) := Lib.hid (World.alloc_at w1 _)
  have HB : Hid (Below w.heap.size w (w1.alloc (.cells #[.int .i64 1, .int .i64 1048576, .slice (some ⟨g, 0, none⟩) 1 1, .slice sA ps.length sc, .int .i64 0, .slice none 0 0, .int .i64 3, .int .i64 8, .int .i64 1, .int .i64 4, .int .i64 256, .int .i64 8, .int .i64 1048576, .int .i64 60, .int .i64 4, .int .i64 4, .int .i64 16, .int .i64 4096] 36))) := Lib.hid (hb1.alloc hb1.size _)
  have HC : Hid (CFAt (w1.alloc (.cells #[.int .i64 1, .int .i64 1048576, .slice (some ⟨g, 0, none⟩) 1 1, .slice sA ps.length sc, .int .i64 0, .slice none 0 0, .int .i64 3, .int .i64 8, .int .i64 1, .int .i64 4, .int .i64 256, .int .i64 8, .int .i64 1048576, .int .i64 60, .int .i64 4, .int .i64 4, .int .i64 16, .int .i64 4096] 36)) (wkC g sA ps.length sc) [wkF] ps) := Lib.hid ⟨(hrow.below hbx).more hbx.size, rfl, by decide, (HS.out.below HB.out).more HB.out.size, rfl, hsl⟩
  obtain ⟨x, hx⟩ : ∃ x, x = w1.heap.size := ⟨_, rfl⟩
  rw [← hx] at HX ⊢
  clear hx hbx hrow hb1
  generalize w1.alloc (.cells #[.int .i64 1, .int .i64 1048576, .slice (some ⟨g, 0, none⟩) 1 1, .slice sA ps.length sc, .int .i64 0, .slice none 0 0, .int .i64 3, .int .i64 8, .int .i64 1, .int .i64 4, .int .i64 256, .int .i64 8, .int .i64 1048576, .int .i64 60, .int .i64 4, .int .i64 4, .int .i64 16, .int .i64 4096] 36) = W at HX HB HC ⊢
  go_wp2_with (refine wpList_load_row rfl 36 (.tmp 5) rfl x rfl 36 (wkC g sA ps.length sc).cells (0, 0) _ HX.out Tryz.underlying36 rfl (by kernel_rfl) ?_)
  refine (check_ref _ _ ps W HC.out).mono ?_
  rintro e w2 ⟨rfl, hb2⟩
  have HX2 := Lib.hid ((hb2.block _ (block_lt HX.out)).trans HX.out)
  have HB2 := Lib.hid (HB.out.trans (hb2.mono HB.out.size))
  have HC2 := Lib.hid (HC.out.below hb2)
  clear HX HB HC hb2
  by_cases hv : checkV (wkC g sA ps.length sc) [wkF] (ps.map (·.2)) = 0
  case neg =>
    generalize checkV (wkC g sA ps.length sc) [wkF] (ps.map (·.2)) = v at hv ⊢
    have e2 : (v != 0) = true := by rw [bne_iff_ne]; exact hv
    clear hv
    go_wp2_with (fail)
    go_ret
    exact ⟨rfl, HB2.out⟩
  case pos =>
  rw [hv]
  obtain ⟨h1, h2, h3, h4⟩ := check_zero hv
  have HO := Lib.hid h3
  have HN := Lib.hid (new_cyes _ _ ps w2 HC2.out h1 h2 h3 h4)
  clear hv h1 h2 h3 h4
  go_wp2_with (refine wpList_load_row rfl 36 (.tmp 5) rfl x rfl 36 (wkC g sA ps.length sc).cells (0, 0) _ HX2.out Tryz.underlying36 rfl (by kernel_rfl) ?_)
  refine HN.out.mono ?_
  rintro e w4 ⟨X, A, k', qs, rfl, g3, _, gX, hq, hqs, hb4⟩
  have HB4 := Lib.hid (HB2.out.trans (hb4.mono HB2.out.size))
  have HQ := Lib.hid hq
  have HQS := Lib.hid hqs
  have G3 := Lib.hid g3
  have GX := Lib.hid gX
  clear hb4 hq hqs g3 gX HX2 HB2 HC2 HN
  have HR10 : Hid (∀ (W : World) (row : List Int) (bA : Option Addr) (c : Nat), Hid (Below w4.heap.size w4 W) → Bytes W W.heap.size bA row → Calls Tryz.prog 10 #[.pointer (some ⟨X, 0, none⟩), .slice bA row.length c] W fun e w' => ∃ k : Nat, e = .returned (.int .i64 k) ∧ TabOf (ps.map (·.2)) row k ∧ Below W.heap.size W w') :=
    Lib.hid fun W row bA c hW hB => by
      have := route_any X row.length k' c A bA qs row W ((hW.out.cell (p := ⟨X, 3, none⟩) GX.out).trans G3.out) (by have := hW.out.size; have := GX.out; omega) ((HQ.out.below hW.out).more hW.out.size) hB rfl (by rw [HQS.out]; exact HO.out)
      rwa [HQS.out] at this
  have HR11 : Hid (∀ (W : World) (row : List Int) (bA : Option Addr) (c : Nat), Hid (Below w4.heap.size w4 W) → Bytes W W.heap.size bA row → Calls Tryz.prog 11 #[.slice sA ps.length sc, .slice bA row.length c] W fun e w' => ∃ k : Nat, e = .returned (.int .i64 k) ∧ TabOf (ps.map (·.2)) row k ∧ Below W.heap.size W w') :=
    Lib.hid fun W row bA c hW hB => by
      have hb := HB4.out.trans (hW.out.mono HB4.out.size)
      exact (route_ref sA bA ps.length sc row.length c ps row W ((HS.out.below hb).more hb.size) rfl hB rfl HO.out).mono fun e w' hh => by
        obtain ⟨k, e1, e2, j, e3⟩ := hh
        exact ⟨k, e1, e2, by rw [e3]; exact below_drewN _⟩
  go_wp2_with (fail)
  go_loopw [8] (fun i wr => ∃ j : Nat, i = .int .i64 j ∧ j ≤ rs.length ∧ Hid (Below w4.heap.size w4 wr)) (fun i _ => ((rs.length : Int) - intOf i).toNat)
  case atStart => exact ⟨0, rfl, Nat.zero_le _, Lib.hid (Below.refl _ _)⟩
  case round =>
    obtain ⟨j, rfl, hj, HBJ⟩ := hrel
    by_cases hlt : j < rs.length
    · obtain ⟨p, hpk⟩ : ∃ p, rs[j]? = some p := ⟨_, List.getElem?_eq_getElem hlt⟩
      have hbr := HB4.out.trans (HBJ.out.mono HB4.out.size)
      obtain ⟨ba, oa, hA, hba, d0, hB1, hz1⟩ := (HR.out.below hbr).at_ hpk
      have hbw : ba < wr.heap.size := by have := hbr.size; omega
      have HPB := Lib.hid (hB1.more hbr.size)
      rw [hA]
      clear hpk hbr hB1 hA
      have HA10 : Hid (∀ W, Hid (Below wr.heap.size wr W) → Calls Tryz.prog 10 #[.pointer (some ⟨X, 0, none⟩), .slice p.1.A p.2.length p.1.c] W fun e w' => ∃ k : Nat, e = .returned (.int .i64 k) ∧ TabOf (ps.map (·.2)) p.2 k ∧ Below W.heap.size W w') :=
        Lib.hid fun W hW => HR10.out W p.2 _ _ (Lib.hid (HBJ.out.trans (hW.out.mono HBJ.out.size))) ((HPB.out.below hW.out).more hW.out.size)
      have HA11 : Hid (∀ W, Hid (Below wr.heap.size wr W) → Calls Tryz.prog 11 #[.slice sA ps.length sc, .slice p.1.A p.2.length p.1.c] W fun e w' => ∃ k : Nat, e = .returned (.int .i64 k) ∧ TabOf (ps.map (·.2)) p.2 k ∧ Below W.heap.size W w') :=
        Lib.hid fun W hW => HR11.out W p.2 _ _ (Lib.hid (HBJ.out.trans (hW.out.mono HBJ.out.size))) ((HPB.out.below hW.out).more hW.out.size)
      have HTS : Hid (∀ W, Hid (Below wr.heap.size wr W) → W.cell? ⟨ba, oa + j, none⟩ = some (.slice p.1.A p.2.length p.1.c) ∧ Hid (Below wr.heap.size wr W)) := Lib.hid fun W hW => ⟨(hW.out.cell (p := ⟨ba, oa + j, none⟩) hbw).trans d0, hW⟩
      have B0 := Lib.hid (Below.refl wr.heap.size wr)
      clear hba d0
      go_upto_region 10 with (fail)
      go_cut [43] (fun v wx => v = .bool false ∧ Hid (Below wr.heap.size wr wx))
      case first =>
        go_region_held3 (fun W => W.cell? ⟨ba, oa + j, none⟩ = some (.slice p.1.A p.2.length p.1.c) ∧ Hid (Below wr.heap.size wr W))
          ((go_split_ands; first | (exact HTS.out _ (by assumption)) | (exact HTS.out _ (hb_drew (by assumption))) | (exact HTS.out _ (hb_trans' (by assumption) (by assumption)))))
          (first | (go_at_call 10; go_split_ands; refine (HA10.out _ (by assumption)).mono ?_; rintro e w5 ⟨k5, rfl, ht5, hb5⟩) | (go_at_call 11; go_split_ands; refine (HA11.out _ (by assumption)).mono ?_; rintro e w6 ⟨k6, rfl, ht6, hb6⟩; obtain rfl := TabOf.one ht5 ht6))
        all_goals go_wp2_with fail
        all_goals go_meet
        all_goals (go_split_ands; refine ⟨by simp, by assumption⟩)
      case rest =>
        obtain ⟨rfl, HBX⟩ := hcut
        go_wp2_with (fail)
        exact ⟨⟨j + 1, by simp, by omega, Lib.hid (HBJ.out.trans (HBX.out.mono HBJ.out.size))⟩, by simp [intOf]; omega⟩
    · obtain rfl : j = rs.length := by omega
      go_wp2_with (fail)
      refine (HR10.out wr [] none 0 HBJ Row.nil).mono ?_
      rintro e w7 ⟨k, rfl, hk, hb7⟩
      obtain rfl := TabOf.one hk (tab_nil HO.out)
      have HB7 := Lib.hid ((HB4.out.trans (HBJ.out.mono HB4.out.size)).trans (hb7.mono (HB4.out.trans (HBJ.out.mono HB4.out.size)).size))
      clear hb7 hk
      go_wp2_with (fail)
      go_ret
      exact ⟨rfl, HB7.out⟩
end Go.Proofs.YtjoaldaldcpfeaaGreatDoor
