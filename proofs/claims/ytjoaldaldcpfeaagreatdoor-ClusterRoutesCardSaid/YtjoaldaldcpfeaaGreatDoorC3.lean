/-
  strataref2.CheckSchema, cell.CheckSchema.
-/
import Derived.Test.YtjoaldaldcpfeaaGreatDoorC2
namespace Go.Proofs.YtjoaldaldcpfeaaGreatDoor
open Go.RowKit

structure famOK (fs : List FM) (k : Nat) (f : FM) : Prop where
  name : nameOK f.name
  max : 1 ≤ f.max ∧ f.max ≤ 16
  ttl : 0 ≤ f.ttl ∧ f.ttl ≤ 1099511627776
  idx : famIdx f.name fs 0 = k
structure schemaOK (fs : List FM) : Prop where
  len : 1 ≤ (fs.length : Int) ∧ (fs.length : Int) ≤ 8
  each : ∀ k f, fs[k]? = some f → famOK fs k f
open Classical in
noncomputable def schemaV (fs : List FM) : Int := if schemaOK fs then 0 else 28
theorem schemaV_t {fs : List FM} (h : schemaOK fs) : schemaV fs = 0 := by unfold schemaV; rw [if_pos h]
theorem schemaV_f {fs : List FM} (h : ¬ schemaOK fs) : schemaV fs = 28 := by unfold schemaV; rw [if_neg h]

set_option maxRecDepth 100000 in
set_option maxHeartbeats 4000000 in
theorem schema_ref (A : Option Addr) (c : Nat) (fs : List FM) (w : World) (h : Row encFM 3 w w.heap.size A fs) (hl : fs.length ≤ 4611686018427387904) :
    Calls Tryz.prog 13 #[.agg #[.slice A fs.length c]] w fun e w' => e = .returned (.int .i64 (schemaV fs)) ∧ Below w.heap.size w w' := by
  have hbx := World.alloc_at w (.cells #[.slice A fs.length c] 24)
  have hb := below_alloc1 w (.cells #[.slice A fs.length c] 24)
  have hz := World.alloc_size w (.cells #[.slice A fs.length c] 24)
  have hlx := block_lt hbx
  have hc0 : (w.alloc (.cells #[.slice A fs.length c] 24)).cell? ⟨w.heap.size, 0, none⟩ = some (.slice A fs.length c) := cell_block hbx 0 _ rfl
  have H1 := Lib.hid h
  clear h
  go_enter Tryz.func13, Tryz.ntmps13
  go_wp2_with (fail)
  obtain ⟨x, hx⟩ : ∃ x, x = w.heap.size := ⟨_, rfl⟩
  rw [← hx] at hbx hb hz hlx hc0
  rw [← hx]
  generalize hW : w.alloc (.cells #[.slice A fs.length c] 24) = W at hb hbx hz hc0 hlx ⊢
  clear hW
  have HX := Lib.hid hx
  have HBX := Lib.hid hbx
  have HB := Lib.hid hb
  have HZ := Lib.hid hz
  clear hx hbx hb hz
  refine (out2_any _ _ _ _).mono ?_
  rintro e w1 ⟨rfl, hw1⟩
  obtain rfl : W = w1 := hw1.symm
  by_cases hlen : 1 ≤ (fs.length : Int) ∧ (fs.length : Int) ≤ 8
  · rw [outB_f hlen]
    have hl8 : fs.length ≤ 8 := by omega
    have HLEN := Lib.hid hlen
    clear hlen
    go_wp2_with (fail)
    clear hc0 hlx
    go_loopw [3] (fun i wr => ∃ k : Nat, i = .int .i64 k ∧ k ≤ fs.length ∧ Hid (Below W.heap.size W wr) ∧ Hid (∀ j f, j < k → fs[j]? = some f → famOK fs j f)) (fun i _ => (fs.length - intOf i).toNat)
    case atStart => exact ⟨0, rfl, Nat.zero_le _, Lib.hid (Below.refl _ _), Lib.hid (fun j f hj => absurd hj (Nat.not_lt_zero _))⟩
    case round =>
      obtain ⟨k, rfl, hk, HBR, hP⟩ := hrel
      have hbxr := (HBR.out.block x (by have := HZ.out; have := HX.out; omega)).trans HBX.out
      have hc0 : wr.cell? ⟨x, 0, none⟩ = some (.slice A fs.length c) := cell_block hbxr 0 _ rfl
      have hlx := block_lt hbxr
      clear hbxr
      by_cases hlt : k < fs.length
      · obtain ⟨f, hf⟩ : ∃ f, fs[k]? = some f := ⟨_, List.getElem?_eq_getElem hlt⟩
        have hrow : Row encFM 3 wr w.heap.size A fs := H1.out.below (by have h1 := HB.out; rw [HX.out] at h1; exact h1.trans (HBR.out.mono HB.out.size))
        obtain ⟨b, o, rfl, hbl, d0, d1, d2⟩ := fam_at hrow hf
        have hbl2 : b < wr.heap.size := by have := HBR.out.size; have := HZ.out; have := HX.out; omega
        have hin := World.alloc_at wr (.cells #[.string f.name, .int .i64 f.max, .int .i64 f.ttl] 66)
        have hbn := below_alloc1 wr (.cells #[.string f.name, .int .i64 f.max, .int .i64 f.ttl] 66)
        have hzn := World.alloc_size wr (.cells #[.string f.name, .int .i64 f.max, .int .i64 f.ttl] 66)
        have hrown : Row encFM 3 (wr.alloc (.cells #[.string f.name, .int .i64 f.max, .int .i64 f.ttl] 66)) (wr.alloc (.cells #[.string f.name, .int .i64 f.max, .int .i64 f.ttl] 66)).heap.size (some ⟨b, o, none⟩) fs := (hrow.alloc (by have := HBR.out.size; have := HZ.out; have := HX.out; omega) _).more (by have := HBR.out.size; have := HZ.out; have := HX.out; omega)
        have hc0n : (wr.alloc (.cells #[.string f.name, .int .i64 f.max, .int .i64 f.ttl] 66)).cell? ⟨x, 0, none⟩ = some (.slice (some ⟨b, o, none⟩) fs.length c) := (World.cell?_of_block (Below.heap_alloc _ _ _ hlx)).trans hc0
        have HRN := Lib.hid hrown
        have HF := Lib.hid hf
        have HBN := Lib.hid (show Below W.heap.size W (wr.alloc (.cells #[.string f.name, .int .i64 f.max, .int .i64 f.ttl] 66)) from HBR.out.trans (hbn.mono HBR.out.size))
        have HZN := Lib.hid hzn
        have e0 : (wr.alloc (.cells #[.string f.name, .int .i64 f.max, .int .i64 f.ttl] 66)).cell? ⟨wr.heap.size, 0, none⟩ = some (.string f.name) := cell_block hin 0 _ rfl
        have e1 : (wr.alloc (.cells #[.string f.name, .int .i64 f.max, .int .i64 f.ttl] 66)).cell? ⟨wr.heap.size, 1, none⟩ = some (.int .i64 f.max) := cell_block hin 1 _ rfl
        have e2 : (wr.alloc (.cells #[.string f.name, .int .i64 f.max, .int .i64 f.ttl] 66)).cell? ⟨wr.heap.size, 2, none⟩ = some (.int .i64 f.ttl) := cell_block hin 2 _ rfl
        have hln := block_lt hin
        have hlxn : x < (wr.alloc (.cells #[.string f.name, .int .i64 f.max, .int .i64 f.ttl] 66)).heap.size := by rw [hzn]; omega
        clear hf hrow hrown hin hbn hzn
        go_wp2_with (fail)
        clear d0 d1 d2 hbl hbl2 hc0 hlx
        obtain ⟨y, hy⟩ : ∃ y, y = wr.heap.size := ⟨_, rfl⟩
        rw [← hy] at e0 e1 e2 hln
        rw [← hy]
        clear hy
        generalize wr.alloc (.cells #[.string f.name, .int .i64 f.max, .int .i64 f.ttl] 66) = W7 at HRN HBN HZN e0 e1 e2 hln hlxn hc0n ⊢
        have HBAD : Hid (¬ famOK fs k f → schemaV fs = 28) := Lib.hid (fun hn => schemaV_f (fun hs => hn (hs.each k f HF.out)))
        refine (name_ref _ _).mono ?_
        rintro e w1 ⟨rfl, hw1⟩
        obtain rfl : W7 = w1 := hw1.symm
        by_cases hname : nameOK f.name
        · rw [nameB_t hname]
          have HName := Lib.hid hname
          clear hname
          go_wp2_with (fail)
          refine (out2_any _ _ _ _).mono ?_
          rintro e w1 ⟨rfl, hw1⟩
          obtain rfl : W7 = w1 := hw1.symm
          by_cases hq : 1 ≤ f.max ∧ f.max ≤ 16
          · rw [outB_f hq]
            have HMax := Lib.hid hq
            clear hq
            go_wp2_with (fail)
            refine (out2_any _ _ _ _).mono ?_
            rintro e w1 ⟨rfl, hw1⟩
            obtain rfl : W7 = w1 := hw1.symm
            by_cases hq : 0 ≤ f.ttl ∧ f.ttl ≤ 1099511627776
            · rw [outB_f hq]
              have HTtl := Lib.hid hq
              clear hq
              go_wp2_with (fail)
              refine (family_ref _ c fs f.name W7 HRN.out (by omega)).mono ?_
              rintro e w1 ⟨rfl, hw1⟩
              have HBO := HBN
              replace HBN := Lib.hid (show Below W.heap.size W w1 from HBO.out.trans (hw1.mono HBO.out.size))
              replace e0 := (hw1.cell (by simpa using hln)).trans e0
              replace e1 := (hw1.cell (by simpa using hln)).trans e1
              replace e2 := (hw1.cell (by simpa using hln)).trans e2
              replace hc0n := (hw1.cell (by simpa using hlxn)).trans hc0n
              replace hln := Nat.lt_of_lt_of_le hln hw1.size
              replace hlxn := Nat.lt_of_lt_of_le hlxn hw1.size
              clear hw1 HBO HRN HZN
              revert HBN e0 e1 e2 hc0n hln hlxn
              generalize w1 = W7
              intro HBN e0 e1 e2 hc0n hln hlxn
              by_cases hq : famIdx f.name fs 0 = k
              · have HIdx := Lib.hid hq
                have hqe : (famIdx f.name fs 0 != (k : Int)) = false := by rw [bne_eq_false_iff_eq]; exact hq
                clear hq
                go_wp2_with (fail)
                have HN : Hid (∀ j f, j < k + 1 → fs[j]? = some f → famOK fs j f) := Lib.hid (fun j f' hj hf' => by
                  rcases Nat.lt_succ_iff_lt_or_eq.1 hj with h1 | rfl
                  · exact hP.out j f' h1 hf'
                  · obtain rfl : f = f' := Option.some.inj (HF.out.symm.trans hf')
                    exact ⟨HName.out, HMax.out, HTtl.out, HIdx.out⟩)
                exact ⟨⟨k + 1, rfl, by omega, HBN, HN⟩, by simp [intOf]; omega⟩
              · have HIdx := Lib.hid hq
                have hqe : (famIdx f.name fs 0 != (k : Int)) = true := by rw [bne_iff_ne]; exact hq
                clear hq
                go_wp2_with (fail)
                go_ret
                exact ⟨ret_int (HBAD.out (fun h => HIdx.out h.idx)).symm, by have h1 := HB.out; rw [HX.out] at h1; exact h1.trans (HBN.out.mono HB.out.size)⟩
            · rw [outB_t hq]
              have HTtl := Lib.hid hq
              clear hq
              go_wp2_with (fail)
              go_ret
              exact ⟨ret_int (HBAD.out (fun h => HTtl.out h.ttl)).symm, by have h1 := HB.out; rw [HX.out] at h1; exact h1.trans (HBN.out.mono HB.out.size)⟩
          · rw [outB_t hq]
            have HMax := Lib.hid hq
            clear hq
            go_wp2_with (fail)
            go_ret
            exact ⟨ret_int (HBAD.out (fun h => HMax.out h.max)).symm, by have h1 := HB.out; rw [HX.out] at h1; exact h1.trans (HBN.out.mono HB.out.size)⟩
        · rw [nameB_f hname]
          have HName := Lib.hid hname
          clear hname
          go_wp2_with (fail)
          go_ret
          exact ⟨ret_int (HBAD.out (fun h => HName.out h.name)).symm, by have h1 := HB.out; rw [HX.out] at h1; exact h1.trans (HBN.out.mono HB.out.size)⟩
      · have HE : schemaV fs = 0 := schemaV_t ⟨HLEN.out, fun j f hf => hP.out j f (by have := (List.getElem?_eq_some_iff.1 hf).1; omega) hf⟩
        have HE2 := Lib.hid HE
        clear HE
        go_wp2_with (fail)
        go_ret
        exact ⟨ret_int HE2.out.symm, by have h1 := HB.out; rw [HX.out] at h1; exact h1.trans (HBR.out.mono HB.out.size)⟩
  · rw [outB_t hlen]
    have HE := Lib.hid (schemaV_f (fs := fs) (fun h => hlen h.len))
    clear hlen
    go_wp2_with (fail)
    go_ret
    exact ⟨ret_int HE.out.symm, by have h1 := HB.out; rwa [HX.out] at h1⟩

set_option maxRecDepth 100000 in
set_option maxHeartbeats 4000000 in
theorem schema_cell (A : Option Addr) (c : Nat) (fs : List FM) (w : World) (h : Row encFM 3 w w.heap.size A fs) (hl : fs.length ≤ 4611686018427387904) :
    Calls Tryz.prog 15 #[.agg #[.slice A fs.length c]] w fun e w' => e = .returned (.int .i64 (schemaV fs)) ∧ Below w.heap.size w w' := by
  have hbx := World.alloc_at w (.cells #[.slice A fs.length c] 24)
  have hb := below_alloc1 w (.cells #[.slice A fs.length c] 24)
  have hz := World.alloc_size w (.cells #[.slice A fs.length c] 24)
  have hlx := block_lt hbx
  have hc0 : (w.alloc (.cells #[.slice A fs.length c] 24)).cell? ⟨w.heap.size, 0, none⟩ = some (.slice A fs.length c) := cell_block hbx 0 _ rfl
  have H1 := Lib.hid h
  clear h
  go_enter Tryz.func15, Tryz.ntmps15
  go_wp2_with (fail)
  obtain ⟨x, hx⟩ : ∃ x, x = w.heap.size := ⟨_, rfl⟩
  rw [← hx] at hbx hb hz hlx hc0
  rw [← hx]
  generalize hW : w.alloc (.cells #[.slice A fs.length c] 24) = W at hb hbx hz hc0 hlx ⊢
  clear hW
  have HX := Lib.hid hx
  have HBX := Lib.hid hbx
  have HB := Lib.hid hb
  have HZ := Lib.hid hz
  clear hx hbx hb hz
  refine (cout_any _ _ _ _).mono ?_
  rintro e w1 ⟨rfl, hw1⟩
  obtain rfl : W = w1 := hw1.symm
  by_cases hlen : 1 ≤ (fs.length : Int) ∧ (fs.length : Int) ≤ 8
  · rw [outB_f hlen]
    have hl8 : fs.length ≤ 8 := by omega
    have HLEN := Lib.hid hlen
    clear hlen
    go_wp2_with (fail)
    clear hc0 hlx
    go_loopw [12] (fun i wr => ∃ k : Nat, i = .int .i64 k ∧ k ≤ fs.length ∧ Hid (Below W.heap.size W wr) ∧ Hid (∀ j f, j < k → fs[j]? = some f → famOK fs j f)) (fun i _ => (fs.length - intOf i).toNat)
    case atStart => exact ⟨0, rfl, Nat.zero_le _, Lib.hid (Below.refl _ _), Lib.hid (fun j f hj => absurd hj (Nat.not_lt_zero _))⟩
    case round =>
      obtain ⟨k, rfl, hk, HBR, hP⟩ := hrel
      have hbxr := (HBR.out.block x (by have := HZ.out; have := HX.out; omega)).trans HBX.out
      have hc0 : wr.cell? ⟨x, 0, none⟩ = some (.slice A fs.length c) := cell_block hbxr 0 _ rfl
      have hlx := block_lt hbxr
      clear hbxr
      by_cases hlt : k < fs.length
      · obtain ⟨f, hf⟩ : ∃ f, fs[k]? = some f := ⟨_, List.getElem?_eq_getElem hlt⟩
        have hrow : Row encFM 3 wr w.heap.size A fs := H1.out.below (by have h1 := HB.out; rw [HX.out] at h1; exact h1.trans (HBR.out.mono HB.out.size))
        obtain ⟨b, o, rfl, hbl, d0, d1, d2⟩ := fam_at hrow hf
        have hbl2 : b < wr.heap.size := by have := HBR.out.size; have := HZ.out; have := HX.out; omega
        have hin := World.alloc_at wr (.cells #[.string f.name, .int .i64 f.max, .int .i64 f.ttl] 66)
        have hbn := below_alloc1 wr (.cells #[.string f.name, .int .i64 f.max, .int .i64 f.ttl] 66)
        have hzn := World.alloc_size wr (.cells #[.string f.name, .int .i64 f.max, .int .i64 f.ttl] 66)
        have hrown : Row encFM 3 (wr.alloc (.cells #[.string f.name, .int .i64 f.max, .int .i64 f.ttl] 66)) (wr.alloc (.cells #[.string f.name, .int .i64 f.max, .int .i64 f.ttl] 66)).heap.size (some ⟨b, o, none⟩) fs := (hrow.alloc (by have := HBR.out.size; have := HZ.out; have := HX.out; omega) _).more (by have := HBR.out.size; have := HZ.out; have := HX.out; omega)
        have hc0n : (wr.alloc (.cells #[.string f.name, .int .i64 f.max, .int .i64 f.ttl] 66)).cell? ⟨x, 0, none⟩ = some (.slice (some ⟨b, o, none⟩) fs.length c) := (World.cell?_of_block (Below.heap_alloc _ _ _ hlx)).trans hc0
        have HRN := Lib.hid hrown
        have HF := Lib.hid hf
        have HBN := Lib.hid (show Below W.heap.size W (wr.alloc (.cells #[.string f.name, .int .i64 f.max, .int .i64 f.ttl] 66)) from HBR.out.trans (hbn.mono HBR.out.size))
        have HZN := Lib.hid hzn
        have e0 : (wr.alloc (.cells #[.string f.name, .int .i64 f.max, .int .i64 f.ttl] 66)).cell? ⟨wr.heap.size, 0, none⟩ = some (.string f.name) := cell_block hin 0 _ rfl
        have e1 : (wr.alloc (.cells #[.string f.name, .int .i64 f.max, .int .i64 f.ttl] 66)).cell? ⟨wr.heap.size, 1, none⟩ = some (.int .i64 f.max) := cell_block hin 1 _ rfl
        have e2 : (wr.alloc (.cells #[.string f.name, .int .i64 f.max, .int .i64 f.ttl] 66)).cell? ⟨wr.heap.size, 2, none⟩ = some (.int .i64 f.ttl) := cell_block hin 2 _ rfl
        have hln := block_lt hin
        have hlxn : x < (wr.alloc (.cells #[.string f.name, .int .i64 f.max, .int .i64 f.ttl] 66)).heap.size := by rw [hzn]; omega
        clear hf hrow hrown hin hbn hzn
        go_wp2_with (fail)
        clear d0 d1 d2 hbl hbl2 hc0 hlx
        obtain ⟨y, hy⟩ : ∃ y, y = wr.heap.size := ⟨_, rfl⟩
        rw [← hy] at e0 e1 e2 hln
        rw [← hy]
        clear hy
        generalize wr.alloc (.cells #[.string f.name, .int .i64 f.max, .int .i64 f.ttl] 66) = W7 at HRN HBN HZN e0 e1 e2 hln hlxn hc0n ⊢
        have HBAD : Hid (¬ famOK fs k f → schemaV fs = 28) := Lib.hid (fun hn => schemaV_f (fun hs => hn (hs.each k f HF.out)))
        refine (name_cell _ _).mono ?_
        rintro e w1 ⟨rfl, hw1⟩
        obtain rfl : W7 = w1 := hw1.symm
        by_cases hname : nameOK f.name
        · rw [nameB_t hname]
          have HName := Lib.hid hname
          clear hname
          go_wp2_with (fail)
          refine (family_cell _ c fs f.name W7 HRN.out (by omega)).mono ?_
          rintro e w1 ⟨rfl, hw1⟩
          have HBO := HBN
          replace HBN := Lib.hid (show Below W.heap.size W w1 from HBO.out.trans (hw1.mono HBO.out.size))
          replace e0 := (hw1.cell (by simpa using hln)).trans e0
          replace e1 := (hw1.cell (by simpa using hln)).trans e1
          replace e2 := (hw1.cell (by simpa using hln)).trans e2
          replace hc0n := (hw1.cell (by simpa using hlxn)).trans hc0n
          replace hln := Nat.lt_of_lt_of_le hln hw1.size
          replace hlxn := Nat.lt_of_lt_of_le hlxn hw1.size
          clear hw1 HBO HRN HZN
          revert HBN e0 e1 e2 hc0n hln hlxn
          generalize w1 = W7
          intro HBN e0 e1 e2 hc0n hln hlxn
          by_cases hq : famIdx f.name fs 0 = k
          · have HIdx := Lib.hid hq
            have hqe : (famIdx f.name fs 0 != (k : Int)) = false := by rw [bne_eq_false_iff_eq]; exact hq
            clear hq
            go_wp2_with (fail)
            refine (cout_any _ _ _ _).mono ?_
            rintro e w1 ⟨rfl, hw1⟩
            obtain rfl : W7 = w1 := hw1.symm
            by_cases hq : 1 ≤ f.max ∧ f.max ≤ 16
            · rw [outB_f hq]
              have HMax := Lib.hid hq
              clear hq
              go_wp2_with (fail)
              refine (cout_any _ _ _ _).mono ?_
              rintro e w1 ⟨rfl, hw1⟩
              obtain rfl : W7 = w1 := hw1.symm
              by_cases hq : 0 ≤ f.ttl ∧ f.ttl ≤ 1099511627776
              · rw [outB_f hq]
                have HTtl := Lib.hid hq
                clear hq
                go_wp2_with (fail)
                have HN : Hid (∀ j f, j < k + 1 → fs[j]? = some f → famOK fs j f) := Lib.hid (fun j f' hj hf' => by
                  rcases Nat.lt_succ_iff_lt_or_eq.1 hj with h1 | rfl
                  · exact hP.out j f' h1 hf'
                  · obtain rfl : f = f' := Option.some.inj (HF.out.symm.trans hf')
                    exact ⟨HName.out, HMax.out, HTtl.out, HIdx.out⟩)
                exact ⟨⟨k + 1, rfl, by omega, HBN, HN⟩, by simp [intOf]; omega⟩
              · rw [outB_t hq]
                have HTtl := Lib.hid hq
                clear hq
                go_wp2_with (fail)
                go_ret
                exact ⟨ret_int (HBAD.out (fun h => HTtl.out h.ttl)).symm, by have h1 := HB.out; rw [HX.out] at h1; exact h1.trans (HBN.out.mono HB.out.size)⟩
            · rw [outB_t hq]
              have HMax := Lib.hid hq
              clear hq
              go_wp2_with (fail)
              go_ret
              exact ⟨ret_int (HBAD.out (fun h => HMax.out h.max)).symm, by have h1 := HB.out; rw [HX.out] at h1; exact h1.trans (HBN.out.mono HB.out.size)⟩
          · have HIdx := Lib.hid hq
            have hqe : (famIdx f.name fs 0 != (k : Int)) = true := by rw [bne_iff_ne]; exact hq
            clear hq
            go_wp2_with (fail)
            go_ret
            exact ⟨ret_int (HBAD.out (fun h => HIdx.out h.idx)).symm, by have h1 := HB.out; rw [HX.out] at h1; exact h1.trans (HBN.out.mono HB.out.size)⟩
        · rw [nameB_f hname]
          have HName := Lib.hid hname
          clear hname
          go_wp2_with (fail)
          go_ret
          exact ⟨ret_int (HBAD.out (fun h => HName.out h.name)).symm, by have h1 := HB.out; rw [HX.out] at h1; exact h1.trans (HBN.out.mono HB.out.size)⟩
      · have HE : schemaV fs = 0 := schemaV_t ⟨HLEN.out, fun j f hf => hP.out j f (by have := (List.getElem?_eq_some_iff.1 hf).1; omega) hf⟩
        have HE2 := Lib.hid HE
        clear HE
        go_wp2_with (fail)
        go_ret
        exact ⟨ret_int HE2.out.symm, by have h1 := HB.out; rw [HX.out] at h1; exact h1.trans (HBR.out.mono HB.out.size)⟩
  · rw [outB_t hlen]
    have HE := Lib.hid (schemaV_f (fs := fs) (fun h => hlen h.len))
    clear hlen
    go_wp2_with (fail)
    go_ret
    exact ⟨ret_int HE.out.symm, by have h1 := HB.out; rwa [HX.out] at h1⟩

end Go.Proofs.YtjoaldaldcpfeaaGreatDoor
