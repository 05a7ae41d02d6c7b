/-
  cluster.open: a node's replicas on a fresh disk.
-/
import Derived.Test.YtjoaldaldcpfeaaGreatDoorE3
namespace Go.Proofs.YtjoaldaldcpfeaaGreatDoor
open Go.RowKit

/-- A cluster's cells. -/
def clC (c : CF) (vd : Value) (M : Nat) (vp : Value) : Array Value := #[.int .i64 c.nodes, .int .i64 c.disk, .slice c.fA c.fn c.fc, .slice c.sA c.sn c.sc, .int .i64 c.r.id, .slice c.r.pA c.r.pn c.r.pc, .int .i64 c.r.le, .int .i64 c.r.mo, .int .i64 c.r.be, .int .i64 c.r.ba, .int .i64 c.r.blk, .int .i64 c.r.bits, .int .i64 c.r.mem, .int .i64 c.r.stall, .int .i64 c.r.wi, .int .i64 c.r.ra, .int .i64 c.r.pm, .int .i64 c.r.seg, vd, .map (some M), vp]
theorem cl_at {w : World} {X : Nat} {c : CF} {vd vp : Value} {M : Nat} (h : w.heap[X]? = some (.cells (clC c vd M vp) 71 (0, 0))) : w.cell? ⟨X, 0, none⟩ = some (.int .i64 c.nodes) ∧ w.cell? ⟨X, 1, none⟩ = some (.int .i64 c.disk) ∧ w.cell? ⟨X, 2, none⟩ = some (.slice c.fA c.fn c.fc) ∧ w.cell? ⟨X, 3, none⟩ = some (.slice c.sA c.sn c.sc) ∧ w.cell? ⟨X, 4, none⟩ = some (.int .i64 c.r.id) ∧ w.cell? ⟨X, 5, none⟩ = some (.slice c.r.pA c.r.pn c.r.pc) ∧ w.cell? ⟨X, 6, none⟩ = some (.int .i64 c.r.le) ∧ w.cell? ⟨X, 7, none⟩ = some (.int .i64 c.r.mo) ∧ w.cell? ⟨X, 8, none⟩ = some (.int .i64 c.r.be) ∧ w.cell? ⟨X, 9, none⟩ = some (.int .i64 c.r.ba) ∧ w.cell? ⟨X, 10, none⟩ = some (.int .i64 c.r.blk) ∧ w.cell? ⟨X, 11, none⟩ = some (.int .i64 c.r.bits) ∧ w.cell? ⟨X, 12, none⟩ = some (.int .i64 c.r.mem) ∧ w.cell? ⟨X, 13, none⟩ = some (.int .i64 c.r.stall) ∧ w.cell? ⟨X, 14, none⟩ = some (.int .i64 c.r.wi) ∧ w.cell? ⟨X, 15, none⟩ = some (.int .i64 c.r.ra) ∧ w.cell? ⟨X, 16, none⟩ = some (.int .i64 c.r.pm) ∧ w.cell? ⟨X, 17, none⟩ = some (.int .i64 c.r.seg) ∧ w.cell? ⟨X, 18, none⟩ = some (vd) ∧ w.cell? ⟨X, 19, none⟩ = some (.map (some M)) ∧ w.cell? ⟨X, 20, none⟩ = some (vp) :=
  ⟨cell_block h 0 _ rfl, cell_block h 1 _ rfl, cell_block h 2 _ rfl, cell_block h 3 _ rfl, cell_block h 4 _ rfl, cell_block h 5 _ rfl, cell_block h 6 _ rfl, cell_block h 7 _ rfl, cell_block h 8 _ rfl, cell_block h 9 _ rfl, cell_block h 10 _ rfl, cell_block h 11 _ rfl, cell_block h 12 _ rfl, cell_block h 13 _ rfl, cell_block h 14 _ rfl, cell_block h 15 _ rfl, cell_block h 16 _ rfl, cell_block h 17 _ rfl, cell_block h 18 _ rfl, cell_block h 19 _ rfl, cell_block h 20 _ rfl⟩
def encPt (x : Option Addr) : List Value := [.pointer x]
theorem len_Pt (x : Option Addr) : (encPt x).length = 1 := rfl
theorem one_Pt (x : Option Addr) : ∀ u ∈ encPt x, u.oneCell' = true := by
  intro u hu
  simp only [encPt, List.mem_cons, List.not_mem_nil, or_false] at hu
  subst hu; rfl
theorem info59 : ∃ i z, Tryz.prog.info? 59 = some i ∧ i.zero = some z ∧ i.size = 1 ∧ i.bytes = 8 ∧ z.cells.size = 1 := by
  have h : (Tryz.prog.info? 59).map (fun i => (i.zero, i.size, i.bytes)) = some (some (.pointer none), 1, 8) := by kernel_rfl
  obtain ⟨i, hi, h0, h1, h2⟩ := info_parts h
  exact ⟨i, _, hi, h0, h1, h2, rfl⟩
theorem info56 : ∃ i z, Tryz.prog.info? 56 = some i ∧ i.zero = some z ∧ i.size = 1 ∧ i.bytes = 8 ∧ z.cells.size = 1 := by
  have h : (Tryz.prog.info? 56).map (fun i => (i.zero, i.size, i.bytes)) = some (some (.pointer none), 1, 8) := by kernel_rfl
  obtain ⟨i, hi, h0, h1, h2⟩ := info_parts h
  exact ⟨i, _, hi, h0, h1, h2, rfl⟩
/-- A node's replicas, as their slice lies in memory. -/
structure SL where
  A : Option Addr
  n : Nat
  c : Nat
def encSL (x : SL) : Value := .slice x.A x.n x.c
theorem KI : KeyEnc Tryz.prog 3 (fun n : Int => Value.int .i64 n) (fun n : Int => 0 ≤ n ∧ n ≤ 1000) where
  keyed := Maps.int_keyed Tryz.underlying3
  reads x hx := ⟨_, Maps.keyOf_int_mk Tryz.underlying3 (WalkArith.wf_i64 (by omega))⟩
  inj x y h := by injection h

theorem tablets_any (X : Nat) (c : CF) (vd vp : Value) (M n : Nat) (w : World) (h : w.heap[X]? = some (.cells (clC c vd M vp) 71 (0, 0))) (hn : c.sn = n) (h7 : n ≤ 7) :
    Calls Tryz.prog 44 #[.pointer (some ⟨X, 0, none⟩)] w fun e w' => e = .returned (.int .i64 (n + 1)) ∧ w' = w := by
  subst hn
  have c3 : w.cell? ⟨X, 3, none⟩ = some (.slice c.sA c.sn c.sc) := cell_block h 3 _ rfl
  have l1 := block_lt h
  clear h
  go_enter Tryz.func44, Tryz.ntmps44
  go_wp2_with (fail)
  go_ret
  exact ⟨rfl, rfl⟩

/-- What a cluster stands on while a node opens. -/
structure ClAt (w : World) (X M : Nat) (c : CF) (vd vp : Value) (fs : List FM) (ps : List (BR × List Int)) (n : Nat) : Prop where
  xb : w.heap[X]? = some (.cells (clC c vd M vp) 71 (0, 0))
  cf : CFAt w c fs ps
  nn : c.nodes = n ∧ n ≤ 7
  sch : schemaOK fs
  spl : splitsOK (ps.map (·.2))
  opn : openV c.r = 0
theorem ClAt.below {w w' : World} {X M : Nat} {c : CF} {vd vp : Value} {fs : List FM} {ps : List (BR × List Int)} {n : Nat} (h : ClAt w X M c vd vp fs ps n) (hb : Below w.heap.size w w') : ClAt w' X M c vd vp fs ps n :=
  ⟨(hb.block _ (block_lt h.xb)).trans h.xb, h.cf.below hb, h.nn, h.sch, h.spl, h.opn⟩

set_option maxRecDepth 100000 in
set_option maxHeartbeats 8000000 in
theorem open_any (X M : Nat) (c : CF) (vp : Value) (fs : List FM) (ps : List (BR × List Int)) (n node : Nat) (dA : Option Addr) (dn dc bd md : Nat) (cap draw : Int) (ds : List (Option Addr)) (l : List (Int × SL)) (w : World) (h : ClAt w X M c (.slice dA dn dc) vp fs ps n) (hnode : node < n)
    (hd : Row encPt 1 w w.heap.size dA ds) (hdn : dn = ds.length) (hds : ds[node]? = some (some ⟨bd, 0, none⟩)) (hD : DiskAt w bd cap md) (hM : MapG Tryz.prog 3 (fun n : Int => Value.int .i64 n) encSL w M l) :
    Calls Tryz.prog 23 #[.pointer (some ⟨X, 0, none⟩), .int .i64 node, .int .i64 draw] w
      fun e w' => e = .returned (.int .i64 0) ∧ Chg (· = M) w w' ∧ ∃ v, MapG Tryz.prog 3 (fun n : Int => Value.int .i64 n) encSL w' M (kput l node v) := by
  have h7 : ps.length ≤ 7 := by have := h.spl.len; rwa [List.length_map] at this
  have hn7 := h.nn.2
  have HC := Lib.hid h
  have HM := Lib.hid hM
  have HD := Lib.hid hD
  have HR := Lib.hid hd
  have HDS := Lib.hid hds
  subst hdn
  clear h hM hD hd hds
  go_enter Tryz.func23, Tryz.ntmps23
  go_wp2_with (fail)
  refine (tablets_any X c _ vp M ps.length w HC.out.xb HC.out.cf.sn h7).mono ?_
  rintro e w1 ⟨rfl, hw1⟩
  obtain rfl : w = w1 := hw1.symm
  go_wp2_with (fail)
  go_loopw [7, 8, 9, 10, 13] (fun s7 _ _ _ i wr => ∃ t : Nat, i = .int .i64 t ∧ t ≤ ps.length + 1 ∧ Hid (∃ rs : List (Option Addr), Own encPt 1 59 wr w.heap.size s7 rs ∧ rs.length = t) ∧ Hid (Below w.heap.size w wr)) (fun _ _ _ _ i _ => ((ps.length : Int) + 1 - intOf i).toNat)
  case atStart => exact ⟨0, rfl, by omega, Lib.hid ⟨[], Own.nil, rfl⟩, Lib.hid (Below.refl _ _)⟩
  case round =>
    obtain ⟨t, rfl, ht, hO, HB⟩ := hrel
    by_cases hlt : t < ps.length + 1
    · have HCr := Lib.hid (HC.out.below HB.out)
      have HDr := Lib.hid (HD.out.below HB.out)
      obtain ⟨rs, hown, hlen⟩ := hO.out
      have HOW := Lib.hid hown
      have HLEN := Lib.hid hlen
      obtain ⟨db, do_, hdA, hdb, hdc⟩ := (HR.out.below HB.out).at_ HDS.out
      have hd0 : wr.cell? ⟨db, do_ + node, none⟩ = some (.pointer (some ⟨bd, 0, none⟩)) := by simpa using hdc 0 _ rfl
      have hnl : node < ds.length := (List.getElem?_eq_some_iff.1 HDS.out).1
      have hdbw : db < wr.heap.size := by have := HB.out.size; omega
      have lX := block_lt HCr.out.xb
      clear hown hlen hO hdc
      subst hdA
      have HCFG : Hid (∀ W, Calls Tryz.prog 20 #[.agg c.cells, .int .i64 node] W fun e w' => ∃ A k, e = .returned (.agg (c.r.of node A n k).cells) ∧ Own encI 1 3 w' W.heap.size (.slice A n k) (ids n) ∧ Below W.heap.size W w') :=
        Lib.hid fun W => config_any c n node W HC.out.nn.1 hn7 (by omega)
      have HPRE : Hid (∀ W, Calls Tryz.prog 19 #[.int .i64 t] W fun e w' => e = .returned (.string (pre t)) ∧ w' = W) := Lib.hid fun W => prefix_any t (by omega) W
      have HOP : Hid (∀ (W : World) (A : Option Addr) (k B : Nat), Own encI 1 3 W B (.slice A n k) (ids n) → Hid (Below wr.heap.size wr W) → Calls Tryz.prog 18 #[.pointer (some ⟨bd, 0, none⟩), .string (pre t), .agg #[.slice c.fA c.fn c.fc], .agg (c.r.of node A n k).cells, .int .i64 draw] W
          fun e w' => (∃ A', e = .returned (.tuple #[.pointer A', .int .i64 0])) ∧ Below W.heap.size W w') :=
        Lib.hid fun W A k B ho hb => by
          rw [HC.out.cf.fn]
          have hrow := Own.row (c := k) (xs := ids n) len_I (show Own encI 1 3 W B (.slice A (ids n).length k) (ids n) by rw [ids_len]; exact ho)
          have := ropen_any bd md cap (pre t) c.fA c.fc fs (c.r.of node A n k) (ids n) draw W (HDr.out.below hb.out) (pre_ok t (by omega)) ((HCr.out.cf.f.below hb.out).more hb.out.size) HC.out.sch hrow (ids_len n).symm (peers_ids hn7 hnode)
          rw [show openV (c.r.of node A n k) = 0 from HC.out.opn] at this
          exact this
      have HTS : Hid (∀ W, Hid (Below wr.heap.size wr W) → (W.cell? ⟨X, 0, none⟩ = some (.int .i64 c.nodes) ∧ W.cell? ⟨X, 1, none⟩ = some (.int .i64 c.disk) ∧ W.cell? ⟨X, 2, none⟩ = some (.slice c.fA c.fn c.fc) ∧ W.cell? ⟨X, 3, none⟩ = some (.slice c.sA c.sn c.sc) ∧ W.cell? ⟨X, 4, none⟩ = some (.int .i64 c.r.id) ∧ W.cell? ⟨X, 5, none⟩ = some (.slice c.r.pA c.r.pn c.r.pc) ∧ W.cell? ⟨X, 6, none⟩ = some (.int .i64 c.r.le) ∧ W.cell? ⟨X, 7, none⟩ = some (.int .i64 c.r.mo) ∧ W.cell? ⟨X, 8, none⟩ = some (.int .i64 c.r.be) ∧ W.cell? ⟨X, 9, none⟩ = some (.int .i64 c.r.ba) ∧ W.cell? ⟨X, 10, none⟩ = some (.int .i64 c.r.blk) ∧ W.cell? ⟨X, 11, none⟩ = some (.int .i64 c.r.bits) ∧ W.cell? ⟨X, 12, none⟩ = some (.int .i64 c.r.mem) ∧ W.cell? ⟨X, 13, none⟩ = some (.int .i64 c.r.stall) ∧ W.cell? ⟨X, 14, none⟩ = some (.int .i64 c.r.wi) ∧ W.cell? ⟨X, 15, none⟩ = some (.int .i64 c.r.ra) ∧ W.cell? ⟨X, 16, none⟩ = some (.int .i64 c.r.pm) ∧ W.cell? ⟨X, 17, none⟩ = some (.int .i64 c.r.seg) ∧ W.cell? ⟨X, 18, none⟩ = some (.slice (some ⟨db, do_, none⟩) ds.length dc) ∧ W.cell? ⟨X, 19, none⟩ = some (.map (some M)) ∧ W.cell? ⟨X, 20, none⟩ = some (vp)) ∧ W.cell? ⟨db, do_ + node, none⟩ = some (.pointer (some ⟨bd, 0, none⟩)) ∧ Hid (Below wr.heap.size wr W)) := Lib.hid fun W hW => ⟨cl_at ((hW.out.block _ lX).trans HCr.out.xb), (hW.out.cell (p := ⟨db, do_ + node, none⟩) hdbw).trans hd0, hW⟩
      have B0 := Lib.hid (Below.refl wr.heap.size wr)
      clear hd0 hn7 hdb
      go_upto_region 5 with (fail)
      go_cut [9, 10] (fun u v wx => v = .int .i64 0 ∧ ∃ A' : Option Addr, u = .pointer A' ∧ Hid (Below wr.heap.size wr wx))
      case first =>
        go_region_held3 (fun W => (W.cell? ⟨X, 0, none⟩ = some (.int .i64 c.nodes) ∧ W.cell? ⟨X, 1, none⟩ = some (.int .i64 c.disk) ∧ W.cell? ⟨X, 2, none⟩ = some (.slice c.fA c.fn c.fc) ∧ W.cell? ⟨X, 3, none⟩ = some (.slice c.sA c.sn c.sc) ∧ W.cell? ⟨X, 4, none⟩ = some (.int .i64 c.r.id) ∧ W.cell? ⟨X, 5, none⟩ = some (.slice c.r.pA c.r.pn c.r.pc) ∧ W.cell? ⟨X, 6, none⟩ = some (.int .i64 c.r.le) ∧ W.cell? ⟨X, 7, none⟩ = some (.int .i64 c.r.mo) ∧ W.cell? ⟨X, 8, none⟩ = some (.int .i64 c.r.be) ∧ W.cell? ⟨X, 9, none⟩ = some (.int .i64 c.r.ba) ∧ W.cell? ⟨X, 10, none⟩ = some (.int .i64 c.r.blk) ∧ W.cell? ⟨X, 11, none⟩ = some (.int .i64 c.r.bits) ∧ W.cell? ⟨X, 12, none⟩ = some (.int .i64 c.r.mem) ∧ W.cell? ⟨X, 13, none⟩ = some (.int .i64 c.r.stall) ∧ W.cell? ⟨X, 14, none⟩ = some (.int .i64 c.r.wi) ∧ W.cell? ⟨X, 15, none⟩ = some (.int .i64 c.r.ra) ∧ W.cell? ⟨X, 16, none⟩ = some (.int .i64 c.r.pm) ∧ W.cell? ⟨X, 17, none⟩ = some (.int .i64 c.r.seg) ∧ W.cell? ⟨X, 18, none⟩ = some (.slice (some ⟨db, do_, none⟩) ds.length dc) ∧ W.cell? ⟨X, 19, none⟩ = some (.map (some M)) ∧ W.cell? ⟨X, 20, none⟩ = some (vp)) ∧ W.cell? ⟨db, do_ + node, none⟩ = some (.pointer (some ⟨bd, 0, none⟩)) ∧ Hid (Below wr.heap.size wr W))
          ((go_split_ands; first | (exact HTS.out _ (by assumption)) | (exact HTS.out _ (hb_drew (by assumption))) | (exact HTS.out _ (hb_trans' (by assumption) (by assumption)))))
          (first | (go_at_call 19; refine (HPRE.out _).mono ?_; rintro e w5 ⟨rfl, rfl⟩) | (go_at_call 20; refine (HCFG.out _).mono ?_; rintro e w5 ⟨A5, k5, rfl, hown5, hb5⟩) | (go_at_call 18; go_split_ands; refine (HOP.out _ _ _ _ (by assumption) (by assumption)).mono ?_; rintro e w6 ⟨⟨A6, rfl⟩, hb6⟩))
        all_goals go_wp2_with fail
        all_goals go_meet
        all_goals (go_split_ands; exact ⟨rfl, _, rfl, by assumption⟩)
      case rest =>
        obtain ⟨rfl, A', rfl, HBX⟩ := hcut
        have HO2 := Lib.hid ((HOW.out.below HBX.out (Nat.le_refl _)).alloc (.cells #[.pointer A'] 59))
        have HW := Lib.hid (row_one (enc := encPt) (sz := 1) wc 59 A' (wc.heap.size + 1) (by omega))
        have HE := Lib.hid (show (rs.length + 1) * 8 ≤ 140737488355328 by rw [HLEN.out]; omega)
        have HF := Lib.hid (show rs.length + 1 ≤ 140737488355328 by rw [HLEN.out]; omega)
        have HG := Lib.hid (show w.heap.size ≤ (wc.alloc (.cells #[.pointer A'] 59)).heap.size by have := HB.out.size; have := HBX.out.size; simp only [World.alloc_size]; omega)
        have HBW := Lib.hid (HB.out.trans (HBX.out.mono HB.out.size))
        have HLT : Hid (∀ k, u7.ownBlock = some k → w.heap.size ≤ k) := Lib.hid fun k hk => (HOW.out.lt k hk).1
        clear hdbw lX B0 hnl
        go_wp2_with (at_builtin; refine wp_app _ encPt 1 rfl _ _ 119 rfl w.heap.size 59 8 Tryz.underlying119 info59 (by omega) len_Pt one_Pt _ rs rfl HO2.out _ _ 1 1 [A'] rfl rfl HW.out HE.out HF.out HG.out ?_; intro v1 w1 hown1 hg1 hat1 _; replace hown1 := Lib.hid hown1; replace hg1 := Lib.hid hg1; replace hat1 := Lib.hid hat1)
        refine ⟨⟨t + 1, by simp, by omega, Lib.hid ⟨rs ++ [A'], hown1.out, by rw [List.length_append, HLEN.out]; rfl⟩, Lib.hid ((HBW.out.alloc HBW.out.size _).grown hg1.out (by have := HBW.out.size; simp only [World.alloc_size]; omega) HLT.out)⟩, by simp [intOf]; omega⟩
    · obtain rfl : t = ps.length + 1 := by omega
      have HCr := Lib.hid (HC.out.below HB.out)
      obtain ⟨rs, hown, hlen⟩ := hO.out
      obtain ⟨A', c', rfl⟩ := hown.form
      have c19 : wr.cell? ⟨X, 19, none⟩ = some (.map (some M)) := cell_block HCr.out.xb 19 _ rfl
      have lX := block_lt HCr.out.xb
      have HMr := Lib.hid (HM.out.same (HB.out.block _ HM.out.lt))
      obtain ⟨W2, hrun, hM2, hg2, hz2⟩ := MapG.put KI HMr.out Tryz.underlying68 (node : Int) (by omega) ⟨A', rs.length, c'⟩
      have HM2 := Lib.hid hM2
      have HG2 := Lib.hid hg2
      simp only [encSL] at hrun
      clear hown hlen hO hM2 hg2
      go_wp2_with (fail)
      go_ret
      exact ⟨rfl, (Chg.ofBelow HB.out).grown HG2.out (by intro k hk; injection hk with hk; exact .inl hk.symm), _, HM2.out⟩
end Go.Proofs.YtjoaldaldcpfeaaGreatDoor
