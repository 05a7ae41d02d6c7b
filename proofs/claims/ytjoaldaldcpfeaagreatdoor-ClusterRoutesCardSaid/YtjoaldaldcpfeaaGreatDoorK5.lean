/-
  cluster.New where a configuration may be.
-/
import Derived.Test.YtjoaldaldcpfeaaGreatDoorK4
import Derived.Deep.RegionLaw
namespace Go.Proofs.YtjoaldaldcpfeaaGreatDoor
open Go.RowKit

def CF.turn (c : CF) (fA : Option Addr) (fn fc : Nat) (sA : Option Addr) (sn sc : Nat) : CF := { c with fA := fA, fn := fn, fc := fc, sA := sA, sn := sn, sc := sc }
/-- New's box while the splits are copied. -/
structure NSt (w wr : World) (x : Nat) (c : CF) (fs : List FM) (ps : List (BR × List Int)) (A2 : Option Addr) (k2 : Nat) (qs : List (BR × List Int)) (A' : Option Addr) (k' : Nat) : Prop where
  xb : wr.heap[x]? = some (.cells (c.turn A2 fs.length k2 A' qs.length k').cells 36 (0, 0))
  fo : Own encFM 3 66 wr (x + 1) (.slice A2 fs.length k2) fs
  so : ORows wr (x + 1) (.slice A' qs.length k') qs
  old : Rows2 wr x c.sA ps
  bl : Below w.heap.size w wr
  xw : x = w.heap.size
theorem NSt.below {w wr w' : World} {x : Nat} {c : CF} {fs : List FM} {ps : List (BR × List Int)} {A2 : Option Addr} {k2 : Nat} {qs : List (BR × List Int)} {A' : Option Addr} {k' : Nat} (h : NSt w wr x c fs ps A2 k2 qs A' k') (hb : Below wr.heap.size wr w') : NSt w w' x c fs ps A2 k2 qs A' k' :=
  ⟨(hb.block _ (block_lt h.xb)).trans h.xb, h.fo.below hb (Nat.le_refl _), h.so.below hb (Nat.le_refl _), h.old.keep (fun p hp => hb.cell (by have := block_lt h.xb; omega)), h.bl.trans (hb.mono h.bl.size), h.xw⟩

/-- One split more. -/
theorem NSt.snoc {w wr w3 w4 : World} {x : Nat} {c : CF} {fs : List FM} {ps : List (BR × List Int)} {A2 : Option Addr} {k2 : Nat} {qs : List (BR × List Int)} {A' : Option Addr} {k' B3 : Nat} {A3 : Option Addr} {k3 : Nat} {xs : List Int} {v4 : Value} {o : Obj}
    (h0 : NSt w wr x c fs ps A2 k2 qs A' k') (hb3 : Below wr.heap.size wr w3) (hO3 : Own encB 1 5 w3 B3 (.slice A3 xs.length k3) xs) (hB3 : x + 1 ≤ B3) (hl : xs.length ≤ 140737488351232)
    (hown4 : Own encBR 1 48 w4 (x + 1) v4 (qs.map (·.1) ++ [⟨A3, xs.length, k3⟩])) (hg4 : (w3.alloc o).grownBy w4 (Value.slice A' qs.length k').ownBlock) :
    ∃ A4 k4, v4 = .slice A4 (qs.length + 1) k4 ∧ w4.cell? ⟨x, 3, none⟩ = some (.slice A' qs.length k') ∧ x < w4.heap.size ∧ (∀ o, w4.frozen? ⟨x, o, none⟩ = false) ∧ NSt w (w4.setCell ⟨x, 3, none⟩ (.slice A4 (qs.length + 1) k4)) x c fs ps A2 k2 (qs ++ [(⟨A3, xs.length, k3⟩, xs)]) A4 k4 := by
  have h := h0.below hb3
  obtain ⟨A4, k4, rfl⟩ := hown4.form
  have hb := block_lt h.xb
  have hob : ∀ j, (Value.slice A' qs.length k').ownBlock = some j → x + 1 ≤ j := fun j hj => (h.so.own.lt j hj).1
  have hz : (w3.alloc o).heap.size = w3.heap.size + 1 := World.alloc_size _ _
  have keep : ∀ i, i < x + 1 → w4.heap[i]? = w3.heap[i]? := fun i hi => (hg4.block i (by omega) (fun e => by have := hob i e.symm; omega)).trans (Below.heap_alloc _ _ _ (by omega))
  have hs : (qs.map (·.1) ++ [(⟨A3, xs.length, k3⟩ : BR)]).length = qs.length + 1 := by simp
  have xb := (keep _ (by omega)).trans h.xb
  rw [hs] at hown4
  have so4 : ORows w4 (x + 1) (.slice A4 (qs.length + 1) k4) (qs ++ [(⟨A3, xs.length, k3⟩, xs)]) := ORows.snoc (h.so.alloc o) ((hO3.weaken hB3).alloc o) rfl hl hown4 hg4
  have fo4 : Own encFM 3 66 w4 (x + 1) (.slice A2 fs.length k2) fs := (h.fo.alloc o).kept hg4 (own_ne (h.fo.alloc o) (h.so.own.alloc o) (by decide))
  have ho4 : Rows2 w4 x c.sA ps := h.old.keep fun p hp => World.cell?_of_block (keep _ (by omega))
  have bl4 : Below w.heap.size w w4 := (h.bl.alloc h.bl.size o).grown hg4 (by have := h.bl.size; omega) (by intro j hj; have := hob j hj; have := h.xw; omega)
  refine ⟨A4, k4, by rw [hs], cell_block xb 3 _ rfl, block_lt xb, frozen_block xb, ⟨?_, ?_, ?_, ho4.keep fun p hp => World.cell?_of_block (Below.heap_setCell _ _ _ _ (by simp; omega)), bl4.setCell (by simp; have := h.xw; omega) _, h.xw⟩⟩
  · have := block_setCell (o := 3) xb (.slice A4 (qs.length + 1) k4)
    rw [List.length_append]
    exact this
  · refine fo4.kept (row := some x) ⟨rfl, rfl, rfl, by simp [World.setCell], fun i hi hn => Below.heap_setCell _ _ _ _ (fun e => hn (by rw [e]))⟩ ?_
    cases hA : (Value.slice A2 fs.length k2).ownBlock with
    | none => exact .inl rfl
    | some k =>
      right
      intro e2
      injection e2 with e2
      have := (fo4.lt k hA).1
      omega
  · rw [List.length_append]
    exact so4.stored xb (by decide) (by decide)

/-- The cluster while its nodes open. -/
structure LSt (w wr : World) (x M : Nat) (c2 : CF) (fs : List FM) (qs : List (BR × List Int)) (k : Nat) (ds : List (Option Addr)) (dA : Option Addr) (dc : Nat) (l : List (Int × SL)) : Prop where
  xb : wr.heap[x]? = some (.cells c2.cells 36 (0, 0))
  Xb : wr.heap[M + 1]? = some (.cells (clC c2 (.slice dA ds.length dc) M (.slice none 0 0)) 71 (0, 0))
  f : Row encFM 3 wr M c2.fA fs
  s : Rows2 wr M c2.sA qs
  mp : MapG Tryz.prog 3 (fun n : Int => Value.int .i64 n) encSL wr M l
  dk : Own encPt 1 56 wr (M + 2) (.slice dA ds.length dc) ds
  dl : ds.length = k
  ord : x < M ∧ w.heap.size ≤ x
  bl : Below w.heap.size w wr
section
variable {w wr w' : World} {x M : Nat} {c2 : CF} {fs : List FM} {qs : List (BR × List Int)} {k : Nat} {ds : List (Option Addr)} {dA : Option Addr} {dc : Nat} {l : List (Int × SL)}
theorem LSt.below (h : LSt w wr x M c2 fs qs k ds dA dc l) (hb : Below wr.heap.size wr w') : LSt w w' x M c2 fs qs k ds dA dc l := by
  have hM := h.mp.lt
  exact ⟨(hb.block _ (block_lt h.xb)).trans h.xb, (hb.block _ (block_lt h.Xb)).trans h.Xb, h.f.keep fun p hp => hb.cell (by omega), h.s.keep fun p hp => hb.cell (by omega), h.mp.same (hb.block _ hM), h.dk.below hb (Nat.le_refl _), h.dl, h.ord, h.bl.trans (hb.mono h.bl.size)⟩
theorem LSt.chg (h : LSt w wr x M c2 fs qs k ds dA dc l) (hc : Chg (· = M) wr w') {l' : List (Int × SL)} (hm : MapG Tryz.prog 3 (fun n : Int => Value.int .i64 n) encSL w' M l') : LSt w w' x M c2 fs qs k ds dA dc l' := by
  have hM := h.mp.lt
  have ho := h.ord
  have hX := block_lt h.Xb
  have hg : wr.grownBy w' (some M) := ⟨hc.os, hc.tape, hc.output, hc.size, fun i hi hn => hc.block i hi (fun e => hn (by rw [e]))⟩
  refine ⟨(hc.keep (by omega) (by omega)).trans h.xb, (hc.keep hX (by omega)).trans h.Xb, h.f.keep fun p hp => World.cell?_of_block (hc.keep (by omega) (by omega)), h.s.keep fun p hp => World.cell?_of_block (hc.keep (by omega) (by omega)), hm, h.dk.kept hg ?_, h.dl, h.ord, ?_⟩
  · cases hA : (Value.slice dA ds.length dc).ownBlock with
    | none => exact .inl rfl
    | some j =>
      right
      intro e
      injection e with e
      have := (h.dk.lt j hA).1
      omega
  · exact h.bl.grown hg h.bl.size (by intro j hj; injection hj with hj; omega)
theorem LSt.cl (h : LSt w wr x M c2 fs qs k ds dA dc l) {n : Nat} (hfn : c2.fn = fs.length) (hsn : c2.sn = qs.length) (hn : c2.nodes = n) (h7 : n ≤ 7) (hs : schemaOK fs) (ho : splitsOK (qs.map (·.2))) (hv : openV c2.r = 0) : ClAt wr (M + 1) M c2 (.slice dA ds.length dc) (.slice none 0 0) fs qs n := by
  have hM := h.mp.lt
  have := ho.len
  rw [List.length_map] at this
  have := hs.len
  exact ⟨h.Xb, ⟨h.f.more (by omega), hfn, by omega, h.s.more (by omega), hsn, by omega⟩, ⟨hn, h7⟩, hs, ho, hv⟩
theorem LSt.disk (h : LSt w wr x M c2 fs qs k ds dA dc l) {bd md : Nat} {cap : Int} (hd : DiskAt wr bd cap md) {o : Obj} {u : Value} {w1 : World} (hg : (wr.alloc o).grownBy w1 (Value.slice dA ds.length dc).ownBlock) : DiskAt (w1.setCell ⟨M + 1, 18, none⟩ u) bd cap md := by
  have hz : (wr.alloc o).heap.size = wr.heap.size + 1 := World.alloc_size _ _
  have l1 := block_lt hd.blk
  have l2 := block_lt hd.files
  have n1 : bd ≠ M + 1 := by
    rintro rfl
    have := hd.blk.symm.trans h.Xb
    simp [clC] at this
  have n2 : md ≠ M + 1 := by
    rintro rfl
    have := hd.files.symm.trans h.Xb
    simp at this
  have m1 : some bd ≠ (Value.slice dA ds.length dc).ownBlock := by
    intro e
    obtain ⟨cur, hc⟩ := own_typed h.dk bd e.symm
    have := hd.blk.symm.trans hc
    simp at this
  have m2 : some md ≠ (Value.slice dA ds.length dc).ownBlock := by
    intro e
    obtain ⟨cur, hc⟩ := own_typed h.dk md e.symm
    have := hd.files.symm.trans hc
    simp at this
  exact ⟨(Below.heap_setCell _ _ _ _ (by simpa using n1)).trans ((hg.block _ (by omega) m1).trans ((Below.heap_alloc _ _ _ l1).trans hd.blk)), (Below.heap_setCell _ _ _ _ (by simpa using n2)).trans ((hg.block _ (by omega) m2).trans ((Below.heap_alloc _ _ _ l2).trans hd.files))⟩
/-- One disk more. -/
theorem LSt.push (h : LSt w wr x M c2 fs qs k ds dA dc l) {d : Option Addr} {o : Obj} {v1 : Value} {w1 : World} (hown : Own encPt 1 56 w1 (M + 2) v1 (ds ++ [d])) (hg : (wr.alloc o).grownBy w1 (Value.slice dA ds.length dc).ownBlock) :
    ∃ A1 c1, v1 = .slice A1 (ds.length + 1) c1 ∧ w1.cell? ⟨M + 1, 18, none⟩ = some (.slice dA ds.length dc) ∧ M + 1 < w1.heap.size ∧ (∀ o, w1.frozen? ⟨M + 1, o, none⟩ = false) ∧ LSt w (w1.setCell ⟨M + 1, 18, none⟩ (.slice A1 (ds.length + 1) c1)) x M c2 fs qs (k + 1) (ds ++ [d]) A1 c1 l := by
  obtain ⟨A1, c1, rfl⟩ := hown.form
  have hM := h.mp.lt
  have ho := h.ord
  have hX := block_lt h.Xb
  have hz : (wr.alloc o).heap.size = wr.heap.size + 1 := World.alloc_size _ _
  have hob : ∀ j, (Value.slice dA ds.length dc).ownBlock = some j → M + 2 ≤ j := fun j hj => (h.dk.lt j hj).1
  have keep : ∀ i, i < M + 2 → w1.heap[i]? = wr.heap[i]? := fun i hi => (hg.block i (by omega) (fun e => by have := hob i e.symm; omega)).trans (Below.heap_alloc _ _ _ (by omega))
  have hs : (ds ++ [d]).length = ds.length + 1 := by simp
  have Xb := (keep _ (by omega)).trans h.Xb
  have hg2 : w1.grownBy (w1.setCell ⟨M + 1, 18, none⟩ (.slice A1 (ds.length + 1) c1)) (some (M + 1)) := ⟨rfl, rfl, rfl, by simp [World.setCell], fun i hi hn => Below.heap_setCell _ _ _ _ (fun e => hn (by rw [e]))⟩
  have kk : ∀ i, i < M + 1 → (w1.setCell ⟨M + 1, 18, none⟩ (.slice A1 (ds.length + 1) c1)).heap[i]? = wr.heap[i]? := fun i hi => (Below.heap_setCell _ _ _ _ (by simp; omega)).trans (keep i (by omega))
  have hb1 : Below w.heap.size w w1 := (h.bl.alloc h.bl.size o).grown hg (by have := h.bl.size; omega) (by intro j hj; have := hob j hj; omega)
  refine ⟨A1, c1, by rw [hs], cell_block Xb 18 _ rfl, block_lt Xb, frozen_block Xb, ⟨(kk _ (by omega)).trans h.xb, ?_, h.f.keep fun p hp => World.cell?_of_block (kk _ (by omega)), h.s.keep fun p hp => World.cell?_of_block (kk _ (by omega)), h.mp.same (kk _ (by omega)), ?_, by rw [hs, h.dl], h.ord, hb1.setCell (by simp; omega) _⟩⟩
  · have := block_setCell (o := 18) Xb (.slice A1 (ds.length + 1) c1)
    rw [hs]
    exact this
  · refine hown.kept hg2 ?_
    cases hA : (Value.slice A1 (ds ++ [d]).length c1).ownBlock with
    | none => exact .inl rfl
    | some j =>
      right
      intro e
      injection e with e
      have := (hown.lt j hA).1
      omega
end

set_option maxRecDepth 100000 in
set_option maxHeartbeats 4000000 in
theorem new_cyes (c : CF) (fs : List FM) (ps : List (BR × List Int)) (w : World) (h : CFAt w c fs ps) (hroom : roomOK c) (hsch : schemaOK fs) (hspl : splitsOK (ps.map (·.2))) (hopn : openV c.r = 0) :
    Calls Tryz.prog 7 #[.agg c.cells] w fun e w' => ∃ (X : Nat) (A : Option Addr) (k' : Nat) (qs : List (BR × List Int)), e = .returned (.tuple #[.pointer (some ⟨X, 0, none⟩), .int .i64 0]) ∧ w'.cell? ⟨X, 3, none⟩ = some (.slice A qs.length k') ∧ w'.cell? ⟨X, 20, none⟩ = some (.slice none 0 0) ∧ X < w'.heap.size ∧ Rows2 w' w'.heap.size A qs ∧ qs.map (·.2) = ps.map (·.2) ∧ Below w.heap.size w w' := by
  have hb := below_alloc1 w (.cells c.cells 36)
  have HX := Lib.hid (World.alloc_at w (.cells c.cells 36))
  have HB := Lib.hid hb
  have HC := Lib.hid (h.below hb)
  have HOLD := Lib.hid (h.s.below hb)
  have hv : checkV c fs (ps.map (·.2)) = 0 := by unfold checkV; rw [if_pos hroom, if_pos hsch, if_pos hspl, hopn]
  have HV := Lib.hid hv
  have R1 := Lib.hid hroom
  have R2 := Lib.hid hsch
  have R3 := Lib.hid hspl
  have R4 := Lib.hid hopn
  clear h hb hv hroom hsch hspl hopn
  have eCF : c.cells = #[.int .i64 c.nodes, .int .i64 c.disk, .slice c.fA c.fn c.fc, .slice c.sA c.sn c.sc, .int .i64 c.r.id, .slice c.r.pA c.r.pn c.r.pc, .int .i64 c.r.le, .int .i64 c.r.mo, .int .i64 c.r.be, .int .i64 c.r.ba, .int .i64 c.r.blk, .int .i64 c.r.bits, .int .i64 c.r.mem, .int .i64 c.r.stall, .int .i64 c.r.wi, .int .i64 c.r.ra, .int .i64 c.r.pm, .int .i64 c.r.seg] := rfl
  rw [eCF]
  go_enter Tryz.func7, Tryz.ntmps7
  rw [← eCF]
  go_upto_region 1 with (fail)
  rw [← eCF]
  clear eCF
  generalize w.alloc (.cells c.cells 36) = W at HX HB HC HOLD ⊢
  obtain ⟨x, hx⟩ : ∃ x, x = w.heap.size := ⟨_, rfl⟩
  rw [← hx] at HX HOLD ⊢
  have HXW := Lib.hid hx
  clear hx
  go_wp2_with (refine wpList_load_row rfl 36 (.tmp 1) rfl x rfl 36 c.cells (0, 0) _ HX.out Tryz.underlying36 rfl (by kernel_rfl) ?_)
  refine (check_any c fs ps W HC.out).mono ?_
  rintro e w2 ⟨rfl, hb2⟩
  have HX2 := Lib.hid ((hb2.block _ (block_lt HX.out)).trans HX.out)
  have HB2 := Lib.hid (HB.out.trans (hb2.mono HB.out.size))
  have HC2 := Lib.hid (HC.out.below hb2)
  have HO2 := Lib.hid (HOLD.out.keep (w' := w2) fun p hp => hb2.cell (by have := block_lt HX.out; omega))
  rw [HV.out]
  clear HX HB HC hb2 HOLD
  obtain ⟨-, -, c2, -⟩ := cf_at HX2.out
  have l1 := block_lt HX2.out
  have f1 := frozen_block HX2.out
  go_wp2_with (fail)
  refine (fclone_any c.fA c.fn c.fc fs w2 HC2.out.f HC2.out.fn (by have := R2.out.len; omega)).mono ?_
  rintro e w3 ⟨v3, rfl, hown3, hb3⟩
  obtain ⟨A2, k2, rfl⟩ := hown3.form
  have HF3 := Lib.hid (hown3.weaken (base' := x + 1) (by omega))
  have HX3 := Lib.hid ((hb3.block _ (block_lt HX2.out)).trans HX2.out)
  have HB3 := Lib.hid (HB2.out.trans (hb3.mono HB2.out.size))
  have HO3 := Lib.hid (HO2.out.keep (w' := w3) fun p hp => hb3.cell (by omega))
  have hsn := Lib.hid HC2.out.sn
  clear c2 l1 f1 HX2 HB2 HC2 HO2 hb3 hown3
  obtain ⟨-, -, c2, c3, -⟩ := cf_at HX3.out
  have l1 := block_lt HX3.out
  have f1 := frozen_block HX3.out
  rw [hsn.out] at c3
  go_upto_region 7 with (fail)
  have HS : Hid (NSt w ((w3.setCell ⟨x, 2, none⟩ (.slice A2 fs.length k2)).setCell ⟨x, 3, none⟩ (.slice none 0 0)) x c fs ps A2 k2 [] none 0) := Lib.hid (by
    have hx36 : (36 : TypeId) ≠ 66 := by decide
    have keepo : ∀ {w1 : World} {o : Nat} {u : Value} {arr : Array Value}, w1.heap[x]? = some (.cells arr 36 (0, 0)) → Own encFM 3 66 w1 (x + 1) (.slice A2 fs.length k2) fs → Own encFM 3 66 (w1.setCell ⟨x, o, none⟩ u) (x + 1) (.slice A2 fs.length k2) fs := by
      intro w1 o u arr hh ho
      refine ho.kept (row := some x) ⟨rfl, rfl, rfl, by simp [World.setCell], fun i hi hn => Below.heap_setCell _ _ _ _ (fun e => hn (by rw [e]))⟩ ?_
      cases hA : (Value.slice A2 fs.length k2).ownBlock with
      | none => exact .inl rfl
      | some k =>
        right
        intro e2
        injection e2 with e2
        have := (ho.lt k hA).1
        omega
    have b1 := block_setCell (o := 2) HX3.out (.slice A2 fs.length k2)
    have b2 := block_setCell (o := 3) b1 (.slice none 0 0)
    refine ⟨b2, keepo b1 (keepo HX3.out HF3.out), ORows.nil, (HO3.out.keep fun p hp => World.cell?_of_block (Below.heap_setCell _ _ _ _ (by simp; omega))).keep fun p hp => World.cell?_of_block (Below.heap_setCell _ _ _ _ (by simp; omega)), ?_, HXW.out⟩
    exact (HB3.out.setCell (by rw [HXW.out]; exact Nat.le_refl _) _).setCell (by rw [HXW.out]; exact Nat.le_refl _) _)
  clear c2 c3 l1 f1 HF3 HX3 HB3 HO3
  generalize (w3.setCell ⟨x, 2, none⟩ (.slice A2 fs.length k2)).setCell ⟨x, 3, none⟩ (.slice none 0 0) = W5 at HS ⊢
  have h7 : ps.length ≤ 7 := by have := R3.out.len; rwa [List.length_map] at this
  go_wp2_with (fail)
  go_loopw [29] (fun i wr => ∃ (j : Nat) (A' : Option Addr) (k' : Nat) (qs : List (BR × List Int)), i = .int .i64 j ∧ j ≤ ps.length ∧ Hid (NSt w wr x c fs ps A2 k2 qs A' k') ∧ Hid (qs.map (·.2) = (ps.map (·.2)).take j ∧ qs.length = j)) (fun i _ => ((ps.length : Int) - intOf i).toNat)
  case atStart => exact ⟨0, none, 0, [], rfl, Nat.zero_le _, HS, Lib.hid ⟨rfl, rfl⟩⟩
  case round =>
    obtain ⟨j, A', k', qs, rfl, hj, HN, HQ⟩ := hrel
    by_cases hlt : j < ps.length
    · obtain ⟨p, hpk⟩ : ∃ p, ps[j]? = some p := ⟨_, List.getElem?_eq_getElem hlt⟩
      obtain ⟨ba, oa, hA, hba, d0, hB1, hz1⟩ := HN.out.old.at_ hpk
      have lx := block_lt HN.out.xb
      have hbw : ba < wr.heap.size := by omega
      have HM := Lib.hid (show (ps.map (·.2))[j]? = some p.2 by rw [List.getElem?_map, hpk]; rfl)
      have HBC : Hid (∀ W, Below wr.heap.size wr W → Calls Tryz.prog 22 #[.slice p.1.A p.2.length p.1.c] W fun e w' => ∃ v, e = .returned v ∧ Own encB 1 5 w' W.heap.size v p.2 ∧ Below W.heap.size W w') :=
        Lib.hid fun W hW => bclone_any _ _ _ p.2 W ((hB1.keep (w' := W) fun q hq => hW.cell (by omega)).more (by have := hW.size; omega)) rfl (by omega)
      have c3 : wr.cell? ⟨x, 3, none⟩ = some (.slice A' qs.length k') := cell_block HN.out.xb 3 _ rfl
      clear hpk hB1
      rw [hA]
      clear hA
      have BD : Below wr.heap.size wr wr.drew := ⟨rfl, rfl, rfl, Nat.le_refl _, fun _ _ => rfl⟩
      have HE : Hid (∀ y : BR, ((qs.map (·.1)).length + [y].length) * 24 ≤ 140737488355328) := Lib.hid fun y => by have := HQ.out.2; rw [List.length_map]; simp; omega
      have HF : Hid (∀ y : BR, (qs.map (·.1)).length + [y].length ≤ 140737488355328) := Lib.hid fun y => by have := HQ.out.2; rw [List.length_map]; simp; omega
      have HAPP : Hid (∀ (W : World) (A3 : Option Addr) (k3 : Nat), Hid (Below wr.heap.size wr W) → Own encBR 1 48 (W.alloc (.cells #[.slice A3 p.2.length k3] 48)) (x + 1) (.slice A' qs.length k') (qs.map (·.1)) ∧ Row encBR 1 (W.alloc (.cells #[.slice A3 p.2.length k3] 48)) (W.heap.size + 1) (some ⟨W.heap.size, 0, none⟩) [⟨A3, p.2.length, k3⟩] ∧ x + 1 ≤ (W.alloc (.cells #[.slice A3 p.2.length k3] 48)).heap.size) :=
        Lib.hid fun W A3 k3 hW => ⟨(HN.out.below hW.out).so.own.alloc _, row_one (enc := encBR) W 48 ⟨A3, p.2.length, k3⟩ (W.heap.size + 1) (by omega), by have := hW.out.size; simp only [World.alloc_size]; omega⟩
      have HX1 := Lib.hid (show x + 1 ≤ wr.drew.heap.size from lx)
      have HL := Lib.hid hz1
      have HQN : Hid (∀ br : BR, (qs ++ [(br, p.2)]).map (·.2) = (ps.map (·.2)).take (j + 1) ∧ (qs ++ [(br, p.2)]).length = j + 1) := Lib.hid fun br => ⟨by rw [List.map_append, HQ.out.1, List.take_add_one, HM.out]; rfl, by rw [List.length_append, HQ.out.2]; rfl⟩
      have HBD := Lib.hid BD
      clear BD
      go_upto_region 10 with (fail)
      go_region_law
        (first
          | (go_simp; go_at_call 22; refine (HBC.out _ HBD.out).mono ?_; rintro e w3 ⟨v3, rfl, hO3, hb3⟩; obtain ⟨A3, k3, rfl⟩ := hO3.form; have lx3 := block_lt (HN.out.below (HBD.out.trans (hb3.mono HBD.out.size))).xb; have e3 : w3.cell? ⟨x, 3, none⟩ = some (.slice A' qs.length k') := cell_block (HN.out.below (HBD.out.trans (hb3.mono HBD.out.size))).xb 3 _ rfl; replace hO3 := Lib.hid hO3; replace hb3 := Lib.hid (HBD.out.trans (hb3.mono HBD.out.size)))
          | (refine step_app (w3.alloc (.cells #[.slice A3 p.2.length k3] 48)) encBR 1 (by kernel_rfl) (.tmp 34) (.tmp 37) 25 (by kernel_rfl) (x + 1) 48 24 Tryz.underlying25 info48 (by decide) len_BR one_BR (.slice A' qs.length k') (qs.map (·.1)) (by kernel_rfl) (HAPP.out _ A3 k3 hb3).1 (w3.heap.size + 1) (some ⟨w3.heap.size, 0, none⟩) 1 1 [⟨A3, p.2.length, k3⟩] rfl (by kernel_rfl) (HAPP.out _ A3 k3 hb3).2.1 (HE.out _) (HF.out _) (HAPP.out _ A3 k3 hb3).2.2 ?_; intro v4 w4 hown4 hg4 hat4 _; obtain ⟨A4, k4, rfl, g1, g2, g3, HN4⟩ := NSt.snoc HN.out hb3.out hO3.out HX1.out HL.out hown4 hg4; clear hown4 hg4 hat4; replace HN4 := Lib.hid HN4))
      all_goals (go_wp2_with (fail); exact ⟨⟨j + 1, _, _, _, by simp, by omega, HN4, Lib.hid (HQN.out _)⟩, by simp [intOf]; omega⟩)
    · obtain rfl : j = ps.length := by omega
      have HQ2 : Hid (qs.map (·.2) = ps.map (·.2)) := Lib.hid (by have := HQ.out.1; rwa [List.take_of_length_le (by rw [List.length_map]; omega)] at this)
      have HXL : Hid (wr.heap[x]? = some (.cells #[.int .i64 c.nodes, .int .i64 c.disk, .slice A2 fs.length k2, .slice A' qs.length k', .int .i64 c.r.id, .slice c.r.pA c.r.pn c.r.pc, .int .i64 c.r.le, .int .i64 c.r.mo, .int .i64 c.r.be, .int .i64 c.r.ba, .int .i64 c.r.blk, .int .i64 c.r.bits, .int .i64 c.r.mem, .int .i64 c.r.stall, .int .i64 c.r.wi, .int .i64 c.r.ra, .int .i64 c.r.pm, .int .i64 c.r.seg] 36 (0, 0))) := Lib.hid HN.out.xb
      have lx := block_lt HN.out.xb
      go_upto_region 12 with (fail)
      go_wp2_with (refine wpList_load_row rfl 36 (.tmp 1) rfl x rfl 36 #[.int .i64 c.nodes, .int .i64 c.disk, .slice A2 fs.length k2, .slice A' qs.length k', .int .i64 c.r.id, .slice c.r.pA c.r.pn c.r.pc, .int .i64 c.r.le, .int .i64 c.r.mo, .int .i64 c.r.be, .int .i64 c.r.ba, .int .i64 c.r.blk, .int .i64 c.r.bits, .int .i64 c.r.mem, .int .i64 c.r.stall, .int .i64 c.r.wi, .int .i64 c.r.ra, .int .i64 c.r.pm, .int .i64 c.r.seg] (0, 0) _ HXL.out Tryz.underlying36 rfl (by kernel_rfl) ?_)
      rw [run_makeMap]
      go_upto_region 13 with (fail)
      have HL0 : Hid (LSt w ((wr.alloc (.map #[] 0)).alloc (.cells #[.int .i64 c.nodes, .int .i64 c.disk, .slice A2 fs.length k2, .slice A' qs.length k', .int .i64 c.r.id, .slice c.r.pA c.r.pn c.r.pc, .int .i64 c.r.le, .int .i64 c.r.mo, .int .i64 c.r.be, .int .i64 c.r.ba, .int .i64 c.r.blk, .int .i64 c.r.bits, .int .i64 c.r.mem, .int .i64 c.r.stall, .int .i64 c.r.wi, .int .i64 c.r.ra, .int .i64 c.r.pm, .int .i64 c.r.seg, .slice none 0 0, .map (some wr.heap.size), .slice none 0 0] 71)) x wr.heap.size (c.turn A2 fs.length k2 A' qs.length k') fs qs 0 [] none 0 []) := Lib.hid (by
        have hb2 : Below wr.heap.size wr ((wr.alloc (.map #[] 0)).alloc (.cells #[.int .i64 c.nodes, .int .i64 c.disk, .slice A2 fs.length k2, .slice A' qs.length k', .int .i64 c.r.id, .slice c.r.pA c.r.pn c.r.pc, .int .i64 c.r.le, .int .i64 c.r.mo, .int .i64 c.r.be, .int .i64 c.r.ba, .int .i64 c.r.blk, .int .i64 c.r.bits, .int .i64 c.r.mem, .int .i64 c.r.stall, .int .i64 c.r.wi, .int .i64 c.r.ra, .int .i64 c.r.pm, .int .i64 c.r.seg, .slice none 0 0, .map (some wr.heap.size), .slice none 0 0] 71)) := (below_alloc1 _ _).alloc (by simp) _
        have hr := (HN.out.fo.row len_FM)
        refine ⟨(hb2.block _ lx).trans HN.out.xb, box_at (by simp only [World.alloc_size]), hr.below hb2, HN.out.so.rows.below hb2, (MapG.made wr).alloc _, Own.nil, rfl, ⟨lx, by rw [HN.out.xw]; exact Nat.le_refl _⟩, HN.out.bl.trans (hb2.mono HN.out.bl.size)⟩)
      obtain ⟨M, hM⟩ : ∃ M, M = wr.heap.size := ⟨_, rfl⟩
      rw [← hM] at HL0 ⊢
      clear hM HXL lx
      generalize (wr.alloc (.map #[] 0)).alloc (.cells _ 71) = W6 at HL0 ⊢
      obtain ⟨n, hn⟩ : ∃ n : Nat, c.nodes = n := ⟨c.nodes.toNat, by have := R1.out.1.1; omega⟩
      have hn7 : n ≤ 7 := by have := R1.out.1.2; omega
      have HND := Lib.hid hn
      have c0 : W6.cell? ⟨x, 0, none⟩ = some (.int .i64 n) := by rw [← hn]; exact cell_block HL0.out.xb 0 _ rfl
      have lx := block_lt HL0.out.xb
      clear hn
      go_wp2_with (fail)
      clear c0 lx
      go_loopw [9, 10, 11, 12, 47] (fun _ _ _ _ i wz => ∃ (k : Nat) (ds : List (Option Addr)) (dA : Option Addr) (dc : Nat) (l : List (Int × SL)), i = .int .i64 k ∧ k ≤ n ∧ Hid (LSt w wz x M (c.turn A2 fs.length k2 A' qs.length k') fs qs k ds dA dc l)) (fun _ _ _ _ i _ => ((n : Int) - intOf i).toNat)
      case atStart => exact ⟨0, [], none, 0, [], rfl, Nat.zero_le _, HL0⟩
      case round =>
        obtain ⟨k, ds, dA, dc, l, rfl, hk, HS1⟩ := hrel
        by_cases hlt : k < n
        · have c1 : wr.cell? ⟨x, 1, none⟩ = some (.int .i64 c.disk) := cell_block HS1.out.xb 1 _ rfl
          have lx := block_lt HS1.out.xb
          go_wp2_with (fail)
          refine (disk_new c.disk wr R1.out.2).mono ?_
          rintro e w3 ⟨bd, md, rfl, hd, hbd, hmd, hb3⟩
          have HS3 := Lib.hid (HS1.out.below hb3)
          have HD3 := Lib.hid hd
          clear c1 lx HS1 hd hbd hmd hb3
          have c18 : w3.cell? ⟨M + 1, 18, none⟩ = some (.slice dA ds.length dc) := cell_block HS3.out.Xb 18 _ rfl
          have lX := block_lt HS3.out.Xb
          have HO2 := Lib.hid (HS3.out.dk.alloc (.cells #[.pointer (some ⟨bd, 0, none⟩)] 56))
          have HW := Lib.hid (row_one (enc := encPt) (sz := 1) w3 56 (some ⟨bd, 0, none⟩) (w3.heap.size + 1) (by omega))
          have HE := Lib.hid (show (ds.length + [some (⟨bd, 0, none⟩ : Addr)].length) * 8 ≤ 140737488355328 by have := HS3.out.dl; simp; omega)
          have HF := Lib.hid (show ds.length + [some (⟨bd, 0, none⟩ : Addr)].length ≤ 140737488355328 by have := HS3.out.dl; simp; omega)
          have HG := Lib.hid (show M + 2 ≤ (w3.alloc (.cells #[.pointer (some ⟨bd, 0, none⟩)] 56)).heap.size by simp only [World.alloc_size]; omega)
          go_wp2_with (at_builtin; refine wp_app (w3.alloc (.cells #[.pointer (some ⟨bd, 0, none⟩)] 56)) encPt 1 (by kernel_rfl) (.tmp 63) (.tmp 65) 69 (by kernel_rfl) (M + 2) 56 8 Tryz.underlying69 info56 (by decide) len_Pt one_Pt (.slice dA ds.length dc) ds (by kernel_rfl) HO2.out (w3.heap.size + 1) (some ⟨w3.heap.size, 0, none⟩) 1 1 [some ⟨bd, 0, none⟩] rfl (by kernel_rfl) HW.out HE.out HF.out HG.out ?_; intro v1 w1 hown1 hg1 hat1 _; obtain ⟨A1, c1', rfl, g1, g2, g3, HP1⟩ := LSt.push HS3.out hown1 hg1; have HDK := LSt.disk HS3.out HD3.out (u := .slice A1 (ds.length + 1) c1') hg1; clear hown1 hg1 hat1; replace HP1 := Lib.hid HP1; replace HDK := Lib.hid HDK; clear c18 lX HO2 HW HG HS3 HD3; go_upto_region 20 with (fail))
          generalize w1.setCell ⟨M + 1, 18, none⟩ (.slice A1 (ds.length + 1) c1') = W7 at HP1 HDK ⊢
          have hcl := HP1.out.cl (n := n) rfl rfl HND.out hn7 R2.out (by rw [HQ2.out]; exact R3.out) R4.out
          have hget : (ds ++ [some (⟨bd, 0, none⟩ : Addr)])[k]? = some (some ⟨bd, 0, none⟩) := by
            have := HP1.out.dl
            have hl : ds.length = k := by rw [List.length_append] at this; simpa using this
            rw [← hl]; simp
          refine (open_any (M + 1) M (c.turn A2 fs.length k2 A' qs.length k') (.slice none 0 0) fs qs n k A1 (ds ++ [some (⟨bd, 0, none⟩ : Addr)]).length c1' bd md c.disk k (ds ++ [some (⟨bd, 0, none⟩ : Addr)]) l W7 hcl hlt (HP1.out.dk.row len_Pt) rfl hget HDK.out HP1.out.mp).mono ?_
          rintro e w8 ⟨rfl, hc8, v8, hm8⟩
          have HP2 := Lib.hid (HP1.out.chg hc8 hm8)
          clear hcl hget hc8 hm8 HP1 HDK
          go_wp2_with (fail)
          exact ⟨⟨k + 1, _, _, _, _, by simp, by omega, HP2⟩, by simp [intOf]; omega⟩
        · obtain rfl : k = n := by omega
          go_wp2_with (fail)
          go_ret2
          exact ⟨M + 1, A', k', qs, rfl, cell_block HS1.out.Xb 3 _ rfl, cell_block HS1.out.Xb 20 _ rfl, block_lt HS1.out.Xb, HS1.out.s.more (by have := HS1.out.mp.lt; omega), HQ2.out, HS1.out.bl⟩
end Go.Proofs.YtjoaldaldcpfeaaGreatDoor
