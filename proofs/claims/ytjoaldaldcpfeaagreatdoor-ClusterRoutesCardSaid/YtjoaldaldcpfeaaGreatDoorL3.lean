/-
  replica.Open on a fresh disk.
-/
import Derived.Test.YtjoaldaldcpfeaaGreatDoorL2
import Derived.Test.YtjoaldaldcpfeaaGreatDoorT2
namespace Go.Proofs.YtjoaldaldcpfeaaGreatDoor
open Go.RowKit

def segOK (r : RC) : Prop := 256 ≤ r.seg ∧ r.seg ≤ 1048576
instance (r : RC) : Decidable (segOK r) := by unfold segOK; infer_instance
def openV (r : RC) : Int := if polOK r.wi r.ra r.pm then (if raftOK r.le r.mo r.be r.ba then (if optOK r then (if segOK r then 0 else 175) else 111) else 160) else 124

/-- Where Open stands: its two boxes, the disk, the families, the peers. -/
structure OpSt (w W : World) (N x b m : Nat) (cap : Int) (fA : Option Addr) (fc : Nat) (fs : List FM) (r : RC) (peers : List Int) : Prop where
  b0 : W.heap[x]? = some (.cells #[.slice fA fs.length fc] 24 (0, 0))
  b1 : W.heap[x + 1]? = some (.cells r.cells 34 (0, 0))
  d : DiskAt W b cap m
  f : Row encFM 3 W x fA fs
  p : Row encI 1 W N r.pA peers
  n : x + 1 < N ∧ N ≤ W.heap.size ∧ x = w.heap.size
  bm : b < x ∧ m < x
  bl : Below w.heap.size w W
theorem ret_open {A : Option Addr} {a b : Int} (h : a = b) : Ending.returned (.tuple #[.pointer A, .int .i64 b]) = .returned (.tuple #[.pointer A, .int .i64 a]) := by rw [h]
section
variable {w W W' : World} {N x b m : Nat} {cap : Int} {fA : Option Addr} {fc : Nat} {fs : List FM} {r : RC} {peers : List Int}
theorem OpSt.keep (h : OpSt w W N x b m cap fA fc fs r peers) (hb : ∀ i, i < N → W'.heap[i]? = W.heap[i]?) (hz : N ≤ W'.heap.size) (bl : Below w.heap.size w W') : OpSt w W' N x b m cap fA fc fs r peers := by
  have n := h.n
  have bm := h.bm
  have hc : ∀ p : Addr, p.block < N → W'.cell? p = W.cell? p := fun p hp => World.cell?_of_block (hb _ hp)
  exact ⟨(hb _ (by omega)).trans h.b0, (hb _ (by omega)).trans h.b1, ⟨(hb _ (by omega)).trans h.d.blk, (hb _ (by omega)).trans h.d.files⟩, h.f.keep fun p hp => hc p (by omega), h.p.keep hc, ⟨n.1, hz, n.2.2⟩, bm, bl⟩
theorem OpSt.below (h : OpSt w W N x b m cap fA fc fs r peers) (hb : Below W.heap.size W W') : OpSt w W' N x b m cap fA fc fs r peers :=
  h.keep (fun i hi => hb.block i (by have := h.n; omega)) (by have := h.n; have := hb.size; omega) (h.bl.trans (hb.mono h.bl.size))
theorem OpSt.fam (h : OpSt w W N x b m cap fA fc fs r peers) : Row encFM 3 W W.heap.size fA fs := h.f.more (by have := h.n; omega)
theorem OpSt.peer (h : OpSt w W N x b m cap fA fc fs r peers) : Row encI 1 W W.heap.size r.pA peers := h.p.more (by have := h.n; omega)
/-- The peers are others now. -/
theorem OpSt.clone (h : OpSt w W N x b m cap fA fc fs r peers) {A3 : Option Addr} {k3 B : Nat} (ho : Own encI 1 3 W B (.slice A3 peers.length k3) peers) (hB : x + 1 < B) :
    OpSt w (W.setCell ⟨x + 1, 1, none⟩ (.slice A3 peers.length k3)) W.heap.size x b m cap fA fc fs { r with pA := A3, pn := peers.length, pc := k3 } peers := by
  have n := h.n
  have bm := h.bm
  have hz : (W.setCell ⟨x + 1, 1, none⟩ (.slice A3 peers.length k3)).heap.size = W.heap.size := by simp [World.setCell]
  have ho2 : Own encI 1 3 (W.setCell ⟨x + 1, 1, none⟩ (.slice A3 peers.length k3)) B (.slice A3 peers.length k3) peers :=
    ho.kept (row := some (x + 1)) ⟨rfl, rfl, rfl, by omega, fun i hi hn => Below.heap_setCell _ _ _ _ (fun e => hn (by rw [e]))⟩ (by
      cases A3 with
      | none => exact .inl rfl
      | some a =>
        right
        intro e
        have := (ho.lt a.block rfl).1
        simp [Value.ownBlock] at e
        omega)
  refine ⟨block_other h.b0 _ _ (by simp), block_setCell h.b1 _, ⟨block_other h.d.blk _ _ (by simp; omega), block_other h.d.files _ _ (by simp; omega)⟩, h.f.keep fun p hp => World.cell?_of_block (Below.heap_setCell _ _ _ _ (by simp; omega)), ?_, ⟨by omega, by omega, n.2.2⟩, bm, h.bl.setCell (by simp; omega) _⟩
  have := ho2.row len_I
  rwa [hz] at this
end

/-- A replica's cells. -/
def repC (b : Nat) (p : ByteArray) (r : RC) (mp ms : Nat) (vj vt vm : Value) : Array Value :=
  #[.pointer (some ⟨b, 0, none⟩), .string p, .int .i64 r.id, .slice r.pA r.pn r.pc, .int .i64 r.le, .int .i64 r.mo, .int .i64 r.be, .int .i64 r.ba, .int .i64 r.blk, .int .i64 r.bits, .int .i64 r.mem, .int .i64 r.stall, .int .i64 r.wi, .int .i64 r.ra, .int .i64 r.pm, .int .i64 r.seg,
    .pointer none, vj, vt, vm, .map (some mp), .slice none 0 0, .pointer none, .map (some ms), .pointer none, .bool false, .bool false, .int .i64 1, .int .i64 0]

/-- Where Open stands once the replica's block is there. -/
structure RepSt (w W : World) (N x b m : Nat) (cap : Int) (fA : Option Addr) (fc : Nat) (fs : List FM) (r : RC) (peers : List Int) (R : Nat) (p : ByteArray) (mp ms : Nat) (vj vt vm : Value) : Prop where
  o : OpSt w W N x b m cap fA fc fs r peers
  rb : W.heap[R]? = some (.cells (repC b p r mp ms vj vt vm) 110 (0, 0))
  rn : N ≤ R
section
variable {w W W' : World} {N x b m : Nat} {cap : Int} {fA : Option Addr} {fc : Nat} {fs : List FM} {r : RC} {peers : List Int} {R : Nat} {p : ByteArray} {mp ms : Nat} {vj vt vm : Value}
theorem RepSt.below (h : RepSt w W N x b m cap fA fc fs r peers R p mp ms vj vt vm) (hb : Below W.heap.size W W') : RepSt w W' N x b m cap fA fc fs r peers R p mp ms vj vt vm :=
  ⟨h.o.below hb, (hb.block _ (block_lt h.rb)).trans h.rb, h.rn⟩
theorem RepSt.stored (h : RepSt w W N x b m cap fA fc fs r peers R p mp ms vj vt vm) (k : Nat) (v : Value) : OpSt w (W.setCell ⟨R, k, none⟩ v) N x b m cap fA fc fs r peers := by
  have n := h.o.n
  have rn := h.rn
  exact h.o.keep (fun i hi => Below.heap_setCell _ _ _ _ (by simp; omega)) (by simp [World.setCell]; omega) (h.o.bl.setCell (by simp; omega) _)
theorem RepSt.setJ (h : RepSt w W N x b m cap fA fc fs r peers R p mp ms vj vt vm) (v : Value) : RepSt w (W.setCell ⟨R, 17, none⟩ v) N x b m cap fA fc fs r peers R p mp ms v vt vm := ⟨h.stored _ _, block_setCell h.rb _, h.rn⟩
theorem RepSt.setT (h : RepSt w W N x b m cap fA fc fs r peers R p mp ms vj vt vm) (v : Value) : RepSt w (W.setCell ⟨R, 18, none⟩ v) N x b m cap fA fc fs r peers R p mp ms vj v vm := ⟨h.stored _ _, block_setCell h.rb _, h.rn⟩
theorem RepSt.setM (h : RepSt w W N x b m cap fA fc fs r peers R p mp ms vj vt vm) (v : Value) : RepSt w (W.setCell ⟨R, 19, none⟩ v) N x b m cap fA fc fs r peers R p mp ms vj vt v := ⟨h.stored _ _, block_setCell h.rb _, h.rn⟩
theorem RepSt.cells (h : RepSt w W N x b m cap fA fc fs r peers R p mp ms vj vt vm) : W.cell? ⟨R, 0, none⟩ = some (.pointer (some ⟨b, 0, none⟩)) ∧ W.cell? ⟨R, 1, none⟩ = some (.string p) ∧ W.cell? ⟨R, 17, none⟩ = some vj ∧ W.cell? ⟨R, 18, none⟩ = some vt ∧ W.cell? ⟨R, 19, none⟩ = some vm ∧ R < W.heap.size ∧ (∀ o, W.frozen? ⟨R, o, none⟩ = false) :=
  ⟨cell_block h.rb 0 _ rfl, cell_block h.rb 1 _ rfl, cell_block h.rb 17 _ rfl, cell_block h.rb 18 _ rfl, cell_block h.rb 19 _ rfl, block_lt h.rb, frozen_block h.rb⟩
end

set_option maxRecDepth 100000 in
set_option maxHeartbeats 8000000 in
theorem ropen_any (b m : Nat) (cap : Int) (p : ByteArray) (fA : Option Addr) (fc : Nat) (fs : List FM) (r : RC) (peers : List Int) (draw : Int) (w : World) (h : DiskAt w b cap m) (hp : PreOK p) (hf : Row encFM 3 w w.heap.size fA fs) (hs : schemaOK fs)
    (hpe : Row encI 1 w w.heap.size r.pA peers) (hpn : r.pn = peers.length) (hok : PeersOK r.id peers) :
    Calls Tryz.prog 18 #[.pointer (some ⟨b, 0, none⟩), .string p, .agg #[.slice fA fs.length fc], .agg r.cells, .int .i64 draw] w
      fun e w' => (∃ A, e = .returned (.tuple #[.pointer A, .int .i64 (openV r)])) ∧ Below w.heap.size w w' := by
  have hb := (below_alloc1 w (.cells #[.slice fA fs.length fc] 24)).alloc (by simp) (.cells r.cells 34)
  have S0 : OpSt w ((w.alloc (.cells #[.slice fA fs.length fc] 24)).alloc (.cells r.cells 34)) (w.heap.size + 2) w.heap.size b m cap fA fc fs r peers :=
    ⟨block_alloc (World.alloc_at w _) _, by have := World.alloc_at (w.alloc (.cells #[.slice fA fs.length fc] 24)) (.cells r.cells 34); rwa [World.alloc_size] at this, h.below hb, hf.below hb, (hpe.below hb).more (by omega), ⟨by omega, by simp only [World.alloc_size]; omega, rfl⟩, ⟨block_lt h.blk, block_lt h.files⟩, hb⟩
  have HS0 := Lib.hid S0
  have HP := Lib.hid hp
  have HS := Lib.hid hs
  have HN := Lib.hid hpn
  have HK := Lib.hid hok
  clear h hp hf hs hpe hpn hok hb S0
  have eRC : r.cells = #[.int .i64 r.id, .slice r.pA r.pn r.pc, .int .i64 r.le, .int .i64 r.mo, .int .i64 r.be, .int .i64 r.ba, .int .i64 r.blk, .int .i64 r.bits, .int .i64 r.mem, .int .i64 r.stall, .int .i64 r.wi, .int .i64 r.ra, .int .i64 r.pm, .int .i64 r.seg] := rfl
  rw [eRC] at HS0 ⊢
  clear eRC
  go_enter Tryz.func18, Tryz.ntmps18
  go_wp2_with (fail)
  obtain ⟨x, hx⟩ : ∃ x, x = w.heap.size := ⟨_, rfl⟩
  rw [← hx] at HS0 ⊢
  have HX := Lib.hid hx
  clear hx
  generalize (w.alloc (.cells #[.slice fA fs.length fc] 24)).alloc (.cells #[.int .i64 r.id, .slice r.pA r.pn r.pc, .int .i64 r.le, .int .i64 r.mo, .int .i64 r.be, .int .i64 r.ba, .int .i64 r.blk, .int .i64 r.bits, .int .i64 r.mem, .int .i64 r.stall, .int .i64 r.wi, .int .i64 r.ra, .int .i64 r.pm, .int .i64 r.seg] 34) = W0 at HS0 ⊢
  refine (disk_up b m cap W0 HS0.out.d).mono ?_
  rintro e w1 ⟨rfl, hw1⟩
  obtain rfl : W0 = w1 := hw1.symm
  obtain ⟨c0, c1, c2, c3, c4, c5, c6, c7, c8, c9, c10, c11, c12, c13⟩ := rc_at HS0.out.b1
  have l1 := block_lt HS0.out.b1
  go_wp2_with (fail)
  refine (pick_none r.wi r.ra r.pm W0).mono ?_
  rintro e w1 ⟨rfl, hb1⟩
  have HS1 := Lib.hid (HS0.out.below hb1)
  clear c0 c1 c2 c3 c4 c5 c6 c7 c8 c9 c10 c11 c12 c13 l1 HS0 hb1
  by_cases hpol : polOK r.wi r.ra r.pm
  case neg =>
    rw [polV_f hpol]
    have hv : openV r = 124 := by unfold openV; rw [if_neg hpol]
    have HV := Lib.hid hv
    clear hv hpol
    go_wp2_with (fail)
    go_ret2
    exact ⟨⟨none, ret_open HV.out⟩, HS1.out.bl⟩
  case pos =>
  rw [polV_t hpol]
  have H1 := Lib.hid hpol
  clear hpol
  obtain ⟨c0, c1, c2, c3, c4, c5, c6, c7, c8, c9, c10, c11, c12, c13⟩ := rc_at HS1.out.b1
  have l1 := block_lt HS1.out.b1
  go_wp2_with (fail)
  by_cases hraft : raftOK r.le r.mo r.be r.ba
  case neg =>
    refine (new_no r.id r.pA r.pn r.pc peers r.le r.mo r.be r.ba draw w1 HS1.out.peer HN.out HK.out hraft).mono ?_
    rintro e w2 ⟨rfl, hb2⟩
    have HS2 := Lib.hid (HS1.out.below hb2)
    have hv : openV r = 160 := by unfold openV; rw [if_pos H1.out, if_neg hraft]
    have HV := Lib.hid hv
    clear c0 c1 c2 c3 c4 c5 c6 c7 c8 c9 c10 c11 c12 c13 l1 HS1 hb2 hv hraft
    go_wp2_with (fail)
    go_ret2
    exact ⟨⟨none, ret_open HV.out⟩, HS2.out.bl⟩
  case pos =>
  refine (new_yes r.id r.pA r.pn r.pc peers r.le r.mo r.be r.ba draw w1 HS1.out.peer HN.out HK.out hraft).mono ?_
  rintro e w2 ⟨g, rfl, hb2⟩
  have HS2 := Lib.hid (HS1.out.below hb2)
  have H2 := Lib.hid hraft
  clear c0 c1 c2 c3 c4 c5 c6 c7 c8 c9 c10 c11 c12 c13 l1 HS1 hb2 hraft
  obtain ⟨c0, c1, c2, c3, c4, c5, c6, c7, c8, c9, c10, c11, c12, c13⟩ := rc_at HS2.out.b1
  have l1 := block_lt HS2.out.b1
  go_wp2_with (fail)
  refine (iclone_any r.pA r.pn r.pc peers w2 HS2.out.peer HN.out (by have := HK.out.len; omega)).mono ?_
  rintro e w3 ⟨v3, rfl, hown3, hb3⟩
  obtain ⟨A3, k3, rfl⟩ := hown3.form
  have HO3 := Lib.hid hown3
  have hn2 := Lib.hid (block_lt HS2.out.b1)
  have HS3 := Lib.hid (HS2.out.below hb3)
  clear c0 c1 c2 c3 c4 c5 c6 c7 c8 c9 c10 c11 c12 c13 l1 HS2 hb3 hown3
  have c1 := (rc_at HS3.out.b1).2.1
  have l1 := block_lt HS3.out.b1
  have hf1 := frozen_block HS3.out.b1
  go_upto_region 12 with (fail)
  have HS4 := Lib.hid (HS3.out.clone HO3.out hn2.out)
  clear c1 l1 hf1 HS3 HO3 hn2
  generalize w3.setCell ⟨x + 1, 1, none⟩ (.slice A3 peers.length k3) = W4 at HS4 ⊢
  obtain ⟨c0, c1, c2, c3, c4, c5, c6, c7, c8, c9, c10, c11, c12, c13⟩ := rc_at HS4.out.b1
  have l1 := block_lt HS4.out.b1
  go_wp2_with (fail)
  rw [run_makeMap]
  go_wp2_with (fail)
  rw [run_makeMap]
  go_upto_region 13 with (fail)
  have hz2 := HS4.out.bl.size
  have B5 : Below W4.heap.size W4 ((W4.alloc (.map #[] 0)).alloc (.map #[] 0)) := (below_alloc1 _ _).alloc (by simp) _
  have HS5 : Hid (RepSt w (((W4.alloc (.map #[] 0)).alloc (.map #[] 0)).alloc (.cells (repC b p { r with pA := A3, pn := peers.length, pc := k3 } W4.heap.size (W4.heap.size + 1) (.pointer none) (.pointer none) (.pointer none)) 110)) w3.heap.size x b m cap fA fc fs { r with pA := A3, pn := peers.length, pc := k3 } peers (W4.heap.size + 1 + 1) p W4.heap.size (W4.heap.size + 1) (.pointer none) (.pointer none) (.pointer none)) :=
    Lib.hid ⟨HS4.out.below (B5.alloc B5.size _), box_at (by simp only [World.alloc_size]), by have := HS4.out.n; omega⟩
  unfold repC at HS5
  clear c0 c1 c2 c3 c4 c5 c6 c7 c8 c9 c10 c11 c12 c13 l1 HS4 B5 hz2
  obtain ⟨R, hR⟩ : ∃ R, R = W4.heap.size + 1 + 1 := ⟨_, rfl⟩
  rw [← hR] at HS5 ⊢
  obtain ⟨mp, hmp⟩ : ∃ mp, mp = W4.heap.size := ⟨_, rfl⟩
  rw [← hmp] at HS5 ⊢
  clear hR hmp
  generalize ((W4.alloc (.map #[] 0)).alloc (.map #[] 0)).alloc (.cells _ 110) = W5 at HS5 ⊢
  have hpi := HP.out
  have c0 := cells1 HS5.out.o.b0
  obtain ⟨-, -, -, -, -, -, d6, d7, d8, d9, -, -, -, -⟩ := rc_at HS5.out.o.b1
  have l0 := block_lt HS5.out.o.b0
  have l1 := block_lt HS5.out.o.b1
  clear hpi
  go_wp2_with (fail)
  by_cases hopt : optOK r
  case neg =>
    refine (topen_no b m cap p fA fc fs r W5 HS5.out.o.d HP.out HS5.out.o.fam HS.out hopt).mono ?_
    rintro e w6 ⟨rfl, hb6⟩
    have HS6 := Lib.hid (HS5.out.below hb6)
    have hv : openV r = 111 := by unfold openV; rw [if_pos H1.out, if_pos H2.out, if_neg hopt]
    have HV := Lib.hid hv
    clear c0 d6 d7 d8 d9 l0 l1 HS5 hb6 hv hopt
    obtain ⟨-, -, -, e18, -, lR, hfR⟩ := HS6.out.cells
    go_wp2_with (fail)
    go_ret2
    exact ⟨⟨none, ret_open HV.out⟩, (HS6.out.setT (.pointer none)).o.bl⟩
  case pos =>
  refine (topen_yes b m cap p fA fc fs r W5 HS5.out.o.d HP.out HS5.out.o.fam HS.out hopt).mono ?_
  rintro e w6 ⟨T, rfl, ht6, hzT, hb6⟩
  have HS6 := Lib.hid (HS5.out.below hb6)
  have HT6 := Lib.hid ht6
  have H3 := Lib.hid hopt
  clear c0 d6 d7 d8 d9 l0 l1 HS5 hb6 hopt ht6 hzT
  obtain ⟨-, -, -, e18, -, lR, hfR⟩ := HS6.out.cells
  go_upto_region 15 with (fail)
  have HS7 := Lib.hid (HS6.out.setT (.pointer (some ⟨T, 0, none⟩)))
  have HT7 : Hid (TAt (w6.setCell ⟨R, 18, none⟩ (.pointer (some ⟨T, 0, none⟩))) T) := Lib.hid ⟨(World.cell?_setCell_other _ _ _ _ (by simp)).trans HT6.out.c8, (World.cell?_setCell_other _ _ _ _ (by simp)).trans HT6.out.c12, (World.cell?_setCell_other _ _ _ _ (by simp)).trans HT6.out.c16, by have := HT6.out.lt; simpa [World.setCell] using this⟩
  clear HS6 HT6 e18 lR hfR
  generalize w6.setCell ⟨R, 18, none⟩ (.pointer (some ⟨T, 0, none⟩)) = W7 at HS7 HT7 ⊢
  obtain ⟨-, -, -, e18, -, lR, hfR⟩ := HS7.out.cells
  go_wp2_with (fail)
  refine (mopen_none T W7 HT7.out).mono ?_
  rintro e w8 ⟨M, rfl, hb8⟩
  have HS8 := Lib.hid (HS7.out.below hb8)
  have HT8 := Lib.hid (HT7.out.below hb8)
  clear HS7 HT7 e18 lR hfR hb8
  obtain ⟨-, -, -, -, e19, lR, hfR⟩ := HS8.out.cells
  go_upto_region 18 with (fail)
  have HS9 := Lib.hid (HS8.out.setM (.pointer (some ⟨M, 0, none⟩)))
  have HT9 : Hid (TAt (w8.setCell ⟨R, 19, none⟩ (.pointer (some ⟨M, 0, none⟩))) T) := Lib.hid ⟨(World.cell?_setCell_other _ _ _ _ (by simp)).trans HT8.out.c8, (World.cell?_setCell_other _ _ _ _ (by simp)).trans HT8.out.c12, (World.cell?_setCell_other _ _ _ _ (by simp)).trans HT8.out.c16, by have := HT8.out.lt; simpa [World.setCell] using this⟩
  clear HS8 HT8 e19 lR hfR
  generalize w8.setCell ⟨R, 19, none⟩ (.pointer (some ⟨M, 0, none⟩)) = W9 at HS9 HT9 ⊢
  have l1 := block_lt HS9.out.o.b1
  obtain ⟨-, -, -, -, -, -, -, -, -, -, -, -, -, d13⟩ := rc_at HS9.out.o.b1
  go_wp2_with (fail)
  by_cases hseg : segOK r
  case neg =>
    refine (jopen_no b m cap p r.seg W9 HS9.out.o.d HP.out hseg).mono ?_
    rintro e wa ⟨rfl, hba⟩
    have HSa := Lib.hid (HS9.out.below hba)
    have hv : openV r = 175 := by unfold openV; rw [if_pos H1.out, if_pos H2.out, if_pos H3.out, if_neg hseg]
    have HV := Lib.hid hv
    clear d13 l1 HS9 hba hv hseg
    obtain ⟨-, -, e17, -, -, lR, hfR⟩ := HSa.out.cells
    go_wp2_with (fail)
    go_ret2
    exact ⟨⟨none, ret_open HV.out⟩, (HSa.out.setJ (.pointer none)).o.bl⟩
  case pos =>
  refine (jopen_yes b m cap p r.seg W9 HS9.out.o.d HP.out hseg).mono ?_
  rintro e wa ⟨J, rfl, hja, hba⟩
  have HSa := Lib.hid (HS9.out.below hba)
  have HTa := Lib.hid (HT9.out.below hba)
  have HJa := Lib.hid hja
  have H4 := Lib.hid hseg
  clear d13 l1 HS9 HT9 hja hba hseg
  obtain ⟨-, -, e17, -, -, lR, hfR⟩ := HSa.out.cells
  go_upto_region 21 with (fail)
  have hRJ : J ≠ R := by
    intro e
    have h1 := HJa.out
    rw [e] at h1
    have h2 := HSa.out.rb.symm.trans h1
    simp [repC, jcells] at h2
  have HSb := Lib.hid (HSa.out.setJ (.pointer (some ⟨J, 0, none⟩)))
  have HTb : Hid (TAt (wa.setCell ⟨R, 17, none⟩ (.pointer (some ⟨J, 0, none⟩))) T) := Lib.hid ⟨(World.cell?_setCell_other _ _ _ _ (by simp)).trans HTa.out.c8, (World.cell?_setCell_other _ _ _ _ (by simp)).trans HTa.out.c12, (World.cell?_setCell_other _ _ _ _ (by simp)).trans HTa.out.c16, by have := HTa.out.lt; simpa [World.setCell] using this⟩
  have HJb : Hid (JAt (wa.setCell ⟨R, 17, none⟩ (.pointer (some ⟨J, 0, none⟩))) J b p r.seg) := Lib.hid (block_other HJa.out _ _ hRJ)
  clear HSa HTa HJa e17 lR hfR hRJ
  generalize wa.setCell ⟨R, 17, none⟩ (.pointer (some ⟨J, 0, none⟩)) = Wb at HSb HTb HJb ⊢
  go_wp2_with (fail)
  refine (left_none R b m cap p Wb HSb.out.cells.1 HSb.out.cells.2.1 HP.out HSb.out.o.d).mono ?_
  rintro e wc ⟨rfl, hbc⟩
  have HSc := Lib.hid (HSb.out.below hbc)
  have HTc := Lib.hid (HTb.out.below hbc)
  have HJc := Lib.hid (jat_below HJb.out hbc)
  clear HSb HTb HJb hbc
  go_wp2_with (fail)
  refine (begin_none R J T b p r.seg _ r.id A3 k3 peers r.le r.mo r.be r.ba draw (.pointer none) wc HSc.out.rb rfl rfl rfl rfl rfl rfl rfl rfl rfl HJc.out HTc.out HSc.out.o.peer HK.out H2.out).mono ?_
  rintro e wd ⟨rfl, hcd⟩
  have hv : openV r = 0 := by unfold openV; rw [if_pos H1.out, if_pos H2.out, if_pos H3.out, if_pos H4.out]
  have HV := Lib.hid hv
  have HC := Lib.hid hcd
  clear hv hcd
  go_wp2_with (fail)
  go_ret2
  refine ⟨⟨some ⟨R, 0, none⟩, ret_open HV.out⟩, ?_⟩
  have hbl := HSc.out.o.bl
  have hn := HSc.out.o.n
  have hrn := HSc.out.rn
  refine ⟨HC.out.os.trans hbl.os, HC.out.tape.trans hbl.tape, HC.out.output.trans hbl.output, Nat.le_trans hbl.size HC.out.size, fun i hi => ?_⟩
  exact (HC.out.keep (by have := hbl.size; omega) (by omega)).trans (hbl.block i hi)
end Go.Proofs.YtjoaldaldcpfeaaGreatDoor
