/-
  tree.Open on a fresh disk.
-/
import Derived.Test.YtjoaldaldcpfeaaGreatDoorT1
import Derived.Test.YtjoaldaldcpfeaaGreatDoorK0
import Derived.Deep.RegionHeld3
namespace Go.Proofs.YtjoaldaldcpfeaaGreatDoor
open Go.RowKit

theorem cells1 {w : World} {b : Nat} {a0 : Value} {t : TypeId} (h : w.heap[b]? = some (.cells #[a0] t (0, 0))) : w.cell? ⟨b, 0, none⟩ = some a0 := cell_block h 0 _ rfl
theorem cells4 {w : World} {b : Nat} {a0 a1 a2 a3 : Value} {t : TypeId} (h : w.heap[b]? = some (.cells #[a0, a1, a2, a3] t (0, 0))) :
    w.cell? ⟨b, 0, none⟩ = some a0 ∧ w.cell? ⟨b, 1, none⟩ = some a1 ∧ w.cell? ⟨b, 2, none⟩ = some a2 ∧ w.cell? ⟨b, 3, none⟩ = some a3 :=
  ⟨cell_block h 0 _ rfl, cell_block h 1 _ rfl, cell_block h 2 _ rfl, cell_block h 3 _ rfl⟩

theorem drew_sz (w : World) : w.drew.heap.size = w.heap.size := rfl
theorem box_at {W : World} {T : Nat} {arr : Array Value} {t : TypeId} (hT : T = W.heap.size) : (W.alloc (.cells arr t)).heap[T]? = some (.cells arr t (0, 0)) := by subst hT; exact World.alloc_at W _
theorem hb_drew {B : Nat} {w W : World} (h : Hid (Below B w W)) : Hid (Below B w W.drew) := Lib.hid ⟨h.out.os, h.out.tape, h.out.output, h.out.size, h.out.block⟩
theorem hb_alloc {B : Nat} {w W : World} (h : Hid (Below B w W)) (hB : B ≤ W.heap.size) (o : Obj) : Hid (Below B w (W.alloc o)) := Lib.hid (h.out.alloc hB o)
theorem hb_alloc' {w W : World} (h : Hid (Below w.heap.size w W)) (o : Obj) : Hid (Below w.heap.size w (W.alloc o)) := Lib.hid (h.out.alloc h.out.size o)
theorem hb_trans {B : Nat} {w W W' : World} (h : Hid (Below B w W)) (hB : B ≤ W.heap.size) (h' : Below W.heap.size W W') : Hid (Below B w W') := Lib.hid (h.out.trans (h'.mono hB))
theorem hb_trans' {w W W' : World} (h' : Below W.heap.size W W') (h : Hid (Below w.heap.size w W)) : Hid (Below w.heap.size w W') := Lib.hid (h.out.trans (h'.mono h.out.size))

set_option maxRecDepth 100000 in
set_option maxHeartbeats 4000000 in
theorem topen_no (b m : Nat) (cap : Int) (p : ByteArray) (fA : Option Addr) (fc : Nat) (fs : List FM) (r : RC) (w : World) (h : DiskAt w b cap m) (hp : PreOK p) (hf : Row encFM 3 w w.heap.size fA fs) (hs : schemaOK fs) (ho : ¬ optOK r) :
    Calls Tryz.prog 38 #[.pointer (some ⟨b, 0, none⟩), .string p, .agg #[.slice fA fs.length fc], .agg #[.int .i64 r.blk, .int .i64 r.bits, .int .i64 r.mem, .int .i64 r.stall]] w
      fun e w' => e = .returned (.tuple #[.pointer none, .int .i64 111]) ∧ Below w.heap.size w w' := by
  have hb := (below_alloc1 w (.cells #[.slice fA fs.length fc] 24)).alloc (by simp) (.cells #[.int .i64 r.blk, .int .i64 r.bits, .int .i64 r.mem, .int .i64 r.stall] 30)
  have B1 : ((w.alloc (.cells #[.slice fA fs.length fc] 24)).alloc (.cells #[.int .i64 r.blk, .int .i64 r.bits, .int .i64 r.mem, .int .i64 r.stall] 30)).heap[w.heap.size]? = some (.cells #[.slice fA fs.length fc] 24 (0, 0)) := block_alloc (World.alloc_at w _) _
  have B2 : ((w.alloc (.cells #[.slice fA fs.length fc] 24)).alloc (.cells #[.int .i64 r.blk, .int .i64 r.bits, .int .i64 r.mem, .int .i64 r.stall] 30)).heap[w.heap.size + 1]? = some (.cells #[.int .i64 r.blk, .int .i64 r.bits, .int .i64 r.mem, .int .i64 r.stall] 30 (0, 0)) := by have := World.alloc_at (w.alloc (.cells #[.slice fA fs.length fc] 24)) (.cells #[.int .i64 r.blk, .int .i64 r.bits, .int .i64 r.mem, .int .i64 r.stall] 30); rwa [World.alloc_size] at this
  have HB := Lib.hid hb
  have HB1 := Lib.hid B1
  have HB2 := Lib.hid B2
  have HD := Lib.hid (h.below hb)
  have HF := Lib.hid ((hf.below hb).more hb.size)
  have HP := Lib.hid hp
  have HS := Lib.hid hs
  have HO := Lib.hid ho
  clear h hp hf hs ho hb B1 B2
  go_enter Tryz.func38, Tryz.ntmps38
  go_wp2_with (fail)
  generalize (w.alloc (.cells #[.slice fA fs.length fc] 24)).alloc (.cells #[.int .i64 r.blk, .int .i64 r.bits, .int .i64 r.mem, .int .i64 r.stall] 30) = W at HB HB1 HB2 HD HF ⊢
  refine (disk_up b m cap W HD.out).mono ?_
  rintro e w1 ⟨rfl, hw1⟩
  obtain rfl : W = w1 := hw1.symm
  go_wp2_with (fail)
  refine (load_none b m cap p W HD.out HP.out).mono ?_
  rintro e w1 ⟨rfl, hb1⟩
  have C1 := Lib.hid ((hb1.block _ (block_lt HB1.out)).trans HB1.out)
  have C2 := Lib.hid ((hb1.block _ (block_lt HB2.out)).trans HB2.out)
  have CD := Lib.hid (HD.out.below hb1)
  have CF := Lib.hid ((HF.out.below hb1).more hb1.size)
  have CB := Lib.hid (HB.out.trans (hb1.mono HB.out.size))
  clear HB HB1 HB2 HD HF hb1
  have c0 := cells1 C1.out
  have l0 := block_lt C1.out
  have l1 := block_lt C2.out
  go_wp2_with (fail)
  obtain ⟨y, hy⟩ : ∃ y, y = w1.heap.size := ⟨_, rfl⟩
  have V := World.alloc_at w1 (.cells #[.int .i64 0, .int .i64 0, .int .i64 0, .int .i64 0, .int .i64 0, .slice none 0 0, .slice none 0 0] 141)
  rw [← hy] at V
  rw [← hy]
  have b1 := below_alloc1 w1 (.cells #[.int .i64 0, .int .i64 0, .int .i64 0, .int .i64 0, .int .i64 0, .slice none 0 0, .slice none 0 0] 141)
  have D1 := Lib.hid ((b1.block _ (block_lt C1.out)).trans C1.out)
  have D2 := Lib.hid ((b1.block _ (block_lt C2.out)).trans C2.out)
  have DD := Lib.hid (CD.out.below b1)
  have DF := Lib.hid ((CF.out.below b1).more b1.size)
  have DB := Lib.hid (CB.out.trans (b1.mono CB.out.size))
  have DV := Lib.hid V
  clear C1 C2 CD CF CB V b1 c0 l0 l1 hy
  generalize w1.alloc (.cells #[.int .i64 0, .int .i64 0, .int .i64 0, .int .i64 0, .int .i64 0, .slice none 0 0, .slice none 0 0] 141) = W1 at D1 D2 DD DF DB DV ⊢
  refine (schema_cell fA fc fs W1 DF.out ?_).mono ?_
  · have := HS.out.len; omega
  rintro e w2 ⟨rfl, hb2⟩
  have E1 := Lib.hid ((hb2.block _ (block_lt D1.out)).trans D1.out)
  have E2 := Lib.hid ((hb2.block _ (block_lt D2.out)).trans D2.out)
  have ED := Lib.hid (DD.out.below hb2)
  have EF := Lib.hid ((DF.out.below hb2).more hb2.size)
  have EB := Lib.hid (DB.out.trans (hb2.mono DB.out.size))
  have EV := Lib.hid ((hb2.block _ (block_lt DV.out)).trans DV.out)
  rw [schemaV_t HS.out]
  clear D1 D2 DD DF DB DV hb2
  obtain ⟨a0, a1, a2, a3⟩ := cells4 E2.out
  have l1 := block_lt E2.out
  have H4 := Lib.hid HO.out
  by_cases q1 : 64 ≤ r.blk ∧ r.blk ≤ 65536
  · by_cases q2 : 0 ≤ r.bits ∧ r.bits ≤ 20
    · by_cases q3 : 1 ≤ r.mem ∧ r.mem ≤ 4194304
      · have q4 : ¬ (1 ≤ r.stall ∧ r.stall ≤ 64) := fun h => HO.out ⟨q1, q2, q3, h⟩
        replace q1 := Lib.hid q1
        replace q2 := Lib.hid q2
        replace q3 := Lib.hid q3
        replace q4 := Lib.hid q4
        go_wp2_with (fail)
        refine (tout_any _ _ _ _).mono ?_
        rintro e w3 ⟨rfl, hw3⟩
        obtain rfl : w2 = w3 := hw3.symm
        rw [outB_f q1.out]
        go_wp2_with (fail)
        refine (tout_any _ _ _ _).mono ?_
        rintro e w3 ⟨rfl, hw3⟩
        obtain rfl : w2 = w3 := hw3.symm
        rw [outB_f q2.out]
        go_wp2_with (fail)
        refine (tout_any _ _ _ _).mono ?_
        rintro e w3 ⟨rfl, hw3⟩
        obtain rfl : w2 = w3 := hw3.symm
        rw [outB_f q3.out]
        go_wp2_with (fail)
        refine (tout_any _ _ _ _).mono ?_
        rintro e w3 ⟨rfl, hw3⟩
        obtain rfl : w2 = w3 := hw3.symm
        rw [outB_t q4.out]
        go_wp2_with (fail)
        go_ret2
        exact ⟨rfl, EB.out⟩
      · replace q1 := Lib.hid q1
        replace q2 := Lib.hid q2
        replace q3 := Lib.hid q3
        go_wp2_with (fail)
        refine (tout_any _ _ _ _).mono ?_
        rintro e w3 ⟨rfl, hw3⟩
        obtain rfl : w2 = w3 := hw3.symm
        rw [outB_f q1.out]
        go_wp2_with (fail)
        refine (tout_any _ _ _ _).mono ?_
        rintro e w3 ⟨rfl, hw3⟩
        obtain rfl : w2 = w3 := hw3.symm
        rw [outB_f q2.out]
        go_wp2_with (fail)
        refine (tout_any _ _ _ _).mono ?_
        rintro e w3 ⟨rfl, hw3⟩
        obtain rfl : w2 = w3 := hw3.symm
        rw [outB_t q3.out]
        go_wp2_with (fail)
        go_ret2
        exact ⟨rfl, EB.out⟩
    · replace q1 := Lib.hid q1
      replace q2 := Lib.hid q2
      go_wp2_with (fail)
      refine (tout_any _ _ _ _).mono ?_
      rintro e w3 ⟨rfl, hw3⟩
      obtain rfl : w2 = w3 := hw3.symm
      rw [outB_f q1.out]
      go_wp2_with (fail)
      refine (tout_any _ _ _ _).mono ?_
      rintro e w3 ⟨rfl, hw3⟩
      obtain rfl : w2 = w3 := hw3.symm
      rw [outB_t q2.out]
      go_wp2_with (fail)
      go_ret2
      exact ⟨rfl, EB.out⟩
  · replace q1 := Lib.hid q1
    go_wp2_with (fail)
    refine (tout_any _ _ _ _).mono ?_
    rintro e w3 ⟨rfl, hw3⟩
    obtain rfl : w2 = w3 := hw3.symm
    rw [outB_t q1.out]
    go_wp2_with (fail)
    go_ret2
    exact ⟨rfl, EB.out⟩

set_option maxRecDepth 100000 in
set_option maxHeartbeats 4000000 in
theorem topen_yes (b m : Nat) (cap : Int) (p : ByteArray) (fA : Option Addr) (fc : Nat) (fs : List FM) (r : RC) (w : World) (h : DiskAt w b cap m) (hp : PreOK p) (hf : Row encFM 3 w w.heap.size fA fs) (hs : schemaOK fs) (ho : optOK r) :
    Calls Tryz.prog 38 #[.pointer (some ⟨b, 0, none⟩), .string p, .agg #[.slice fA fs.length fc], .agg #[.int .i64 r.blk, .int .i64 r.bits, .int .i64 r.mem, .int .i64 r.stall]] w
      fun e w' => ∃ t, e = .returned (.tuple #[.pointer (some ⟨t, 0, none⟩), .int .i64 0]) ∧ TAt w' t ∧ w.heap.size ≤ t ∧ Below w.heap.size w w' := by
  have hb := (below_alloc1 w (.cells #[.slice fA fs.length fc] 24)).alloc (by simp) (.cells #[.int .i64 r.blk, .int .i64 r.bits, .int .i64 r.mem, .int .i64 r.stall] 30)
  have B1 : ((w.alloc (.cells #[.slice fA fs.length fc] 24)).alloc (.cells #[.int .i64 r.blk, .int .i64 r.bits, .int .i64 r.mem, .int .i64 r.stall] 30)).heap[w.heap.size]? = some (.cells #[.slice fA fs.length fc] 24 (0, 0)) := block_alloc (World.alloc_at w _) _
  have B2 : ((w.alloc (.cells #[.slice fA fs.length fc] 24)).alloc (.cells #[.int .i64 r.blk, .int .i64 r.bits, .int .i64 r.mem, .int .i64 r.stall] 30)).heap[w.heap.size + 1]? = some (.cells #[.int .i64 r.blk, .int .i64 r.bits, .int .i64 r.mem, .int .i64 r.stall] 30 (0, 0)) := by have := World.alloc_at (w.alloc (.cells #[.slice fA fs.length fc] 24)) (.cells #[.int .i64 r.blk, .int .i64 r.bits, .int .i64 r.mem, .int .i64 r.stall] 30); rwa [World.alloc_size] at this
  have HB := Lib.hid hb
  have HB1 := Lib.hid B1
  have HB2 := Lib.hid B2
  have HD := Lib.hid (h.below hb)
  have HF := Lib.hid ((hf.below hb).more hb.size)
  have HP := Lib.hid hp
  have HS := Lib.hid hs
  have HO := Lib.hid ho
  clear h hp hf hs ho hb B1 B2
  go_enter Tryz.func38, Tryz.ntmps38
  go_wp2_with (fail)
  generalize (w.alloc (.cells #[.slice fA fs.length fc] 24)).alloc (.cells #[.int .i64 r.blk, .int .i64 r.bits, .int .i64 r.mem, .int .i64 r.stall] 30) = W at HB HB1 HB2 HD HF ⊢
  refine (disk_up b m cap W HD.out).mono ?_
  rintro e w1 ⟨rfl, hw1⟩
  obtain rfl : W = w1 := hw1.symm
  go_wp2_with (fail)
  refine (load_none b m cap p W HD.out HP.out).mono ?_
  rintro e w1 ⟨rfl, hb1⟩
  have C1 := Lib.hid ((hb1.block _ (block_lt HB1.out)).trans HB1.out)
  have C2 := Lib.hid ((hb1.block _ (block_lt HB2.out)).trans HB2.out)
  have CD := Lib.hid (HD.out.below hb1)
  have CF := Lib.hid ((HF.out.below hb1).more hb1.size)
  have CB := Lib.hid (HB.out.trans (hb1.mono HB.out.size))
  clear HB HB1 HB2 HD HF hb1
  have c0 := cells1 C1.out
  have l0 := block_lt C1.out
  have l1 := block_lt C2.out
  go_wp2_with (fail)
  obtain ⟨y, hy⟩ : ∃ y, y = w1.heap.size := ⟨_, rfl⟩
  have V := World.alloc_at w1 (.cells #[.int .i64 0, .int .i64 0, .int .i64 0, .int .i64 0, .int .i64 0, .slice none 0 0, .slice none 0 0] 141)
  rw [← hy] at V
  rw [← hy]
  have b1 := below_alloc1 w1 (.cells #[.int .i64 0, .int .i64 0, .int .i64 0, .int .i64 0, .int .i64 0, .slice none 0 0, .slice none 0 0] 141)
  have D1 := Lib.hid ((b1.block _ (block_lt C1.out)).trans C1.out)
  have D2 := Lib.hid ((b1.block _ (block_lt C2.out)).trans C2.out)
  have DD := Lib.hid (CD.out.below b1)
  have DF := Lib.hid ((CF.out.below b1).more b1.size)
  have DB := Lib.hid (CB.out.trans (b1.mono CB.out.size))
  have DV := Lib.hid V
  clear C1 C2 CD CF CB V b1 c0 l0 l1 hy
  generalize w1.alloc (.cells #[.int .i64 0, .int .i64 0, .int .i64 0, .int .i64 0, .int .i64 0, .slice none 0 0, .slice none 0 0] 141) = W1 at D1 D2 DD DF DB DV ⊢
  refine (schema_cell fA fc fs W1 DF.out ?_).mono ?_
  · have := HS.out.len; omega
  rintro e w2 ⟨rfl, hb2⟩
  have E1 := Lib.hid ((hb2.block _ (block_lt D1.out)).trans D1.out)
  have E2 := Lib.hid ((hb2.block _ (block_lt D2.out)).trans D2.out)
  have ED := Lib.hid (DD.out.below hb2)
  have EF := Lib.hid ((DF.out.below hb2).more hb2.size)
  have EB := Lib.hid (DB.out.trans (hb2.mono DB.out.size))
  have EV := Lib.hid ((hb2.block _ (block_lt DV.out)).trans DV.out)
  rw [schemaV_t HS.out]
  clear D1 D2 DD DF DB DV hb2
  obtain ⟨a0, a1, a2, a3⟩ := cells4 E2.out
  have l1 := block_lt E2.out
  have q1 := Lib.hid HO.out.1
  have q2 := Lib.hid HO.out.2.1
  have q3 := Lib.hid HO.out.2.2.1
  have q4 := Lib.hid HO.out.2.2.2
  go_wp2_with (fail)
  refine (tout_any _ _ _ _).mono ?_
  rintro e w3 ⟨rfl, hw3⟩
  obtain rfl : w2 = w3 := hw3.symm
  rw [outB_f q1.out]
  go_wp2_with (fail)
  refine (tout_any _ _ _ _).mono ?_
  rintro e w3 ⟨rfl, hw3⟩
  obtain rfl : w2 = w3 := hw3.symm
  rw [outB_f q2.out]
  go_wp2_with (fail)
  refine (tout_any _ _ _ _).mono ?_
  rintro e w3 ⟨rfl, hw3⟩
  obtain rfl : w2 = w3 := hw3.symm
  rw [outB_f q3.out]
  go_wp2_with (fail)
  refine (tout_any _ _ _ _).mono ?_
  rintro e w3 ⟨rfl, hw3⟩
  obtain rfl : w2 = w3 := hw3.symm
  rw [outB_f q4.out]
  go_wp2_with (fail)
  clear q1 q2 q3 q4
  have c0 := cells1 E1.out
  have l0 := block_lt E1.out
  have hmm := @run_makeMap Tryz.prog
  go_cut [14] (fun t wx => ∃ (T : Nat) (arr : Array Value), t = .pointer (some ⟨T, 0, none⟩) ∧ Hid (wx.heap[T]? = some (.cells arr 150 (0, 0)) ∧ arr[8]? = some (.int .i64 0) ∧ arr[9]? = some (.int .i64 0) ∧ arr[11]? = some (.int .i64 0) ∧ arr[12]? = some (.slice none 0 0) ∧ arr[16]? = some (.int .i64 0) ∧ Below w2.heap.size w2 wx ∧ w2.heap.size ≤ T))
  case first =>
    have B0 := Lib.hid (Below.refl w2.heap.size w2)
    have HFC : Hid (∀ W, Below w2.heap.size w2 W → Calls Tryz.prog 21 #[.slice fA fs.length fc] W fun e w' => ∃ v, e = .returned v ∧ Own encFM 3 66 w' W.heap.size v fs ∧ Below W.heap.size W w') :=
      Lib.hid (fun W hW => fclone_any fA _ fc fs _ ((EF.out.below hW).more hW.size) rfl (by have := HS.out.len; omega))
    have HTS : Hid (∀ W, Hid (Below w2.heap.size w2 W) → (W.cell? ⟨w.heap.size, 0, none⟩ = some (.slice fA fs.length fc) ∧ (W.cell? ⟨w.heap.size + 1, 0, none⟩ = some (.int .i64 r.blk) ∧ W.cell? ⟨w.heap.size + 1, 1, none⟩ = some (.int .i64 r.bits) ∧ W.cell? ⟨w.heap.size + 1, 2, none⟩ = some (.int .i64 r.mem) ∧ W.cell? ⟨w.heap.size + 1, 3, none⟩ = some (.int .i64 r.stall)) ∧ Hid (Below w2.heap.size w2 W))) := Lib.hid (fun W hW => by
      have g1 := (hW.out.block _ l0).trans E1.out
      have g2 := (hW.out.block _ l1).trans E2.out
      exact ⟨cells1 g1, cells4 g2, hW⟩)
    clear a0 a1 a2 a3 c0
    go_region_held3 (fun W => W.cell? ⟨w.heap.size, 0, none⟩ = some (.slice fA fs.length fc) ∧ (W.cell? ⟨w.heap.size + 1, 0, none⟩ = some (.int .i64 r.blk) ∧ W.cell? ⟨w.heap.size + 1, 1, none⟩ = some (.int .i64 r.bits) ∧ W.cell? ⟨w.heap.size + 1, 2, none⟩ = some (.int .i64 r.mem) ∧ W.cell? ⟨w.heap.size + 1, 3, none⟩ = some (.int .i64 r.stall)) ∧ Hid (Below w2.heap.size w2 W))
      ((go_split_ands; first | (exact HTS.out _ (hb_drew (by assumption))) | (exact HTS.out _ (hb_alloc' (by assumption) _)) | (exact HTS.out _ (hb_trans' (by assumption) (by assumption)))))
      (first | (go_at_call 59; refine (mem_new _).mono ?_; rintro e w5 ⟨mm, rfl, hb5⟩; have hz5 := hb5.size; (try simp only [World.alloc_size] at hz5)) | (go_at_call 21; go_split_ands; refine (HFC.out _ (Hid.out (by assumption))).mono ?_; rintro e w5 ⟨v5, rfl, hown5, hb5⟩; obtain ⟨A5, k5, rfl⟩ := hown5.form; clear hown5; have hz5 := hb5.size; (try simp only [World.alloc_size, drew_sz] at hz5)))
    all_goals go_wp2_with fail
    all_goals go_meet
    all_goals (refine ⟨_, _, rfl, Lib.hid ⟨box_at (by simp only [World.alloc_size]), rfl, rfl, rfl, rfl, rfl, ?_, ?_⟩⟩)
    all_goals first | (go_split_ands; exact Hid.out (by assumption)) | omega | skip
  case rest =>
    obtain ⟨T, arr, rfl, hR⟩ := hcut
    clear a0 a1 a2 a3 c0 hmm l1 l0 E1 E2
    have c9 : wc.cell? ⟨T, 9, none⟩ = some (.int .i64 0) := cell_block hR.out.1 9 _ hR.out.2.2.1
    have c11 : wc.cell? ⟨T, 11, none⟩ = some (.int .i64 0) := cell_block hR.out.1 11 _ hR.out.2.2.2.1
    have hf := frozen_block hR.out.1
    have lT := block_lt hR.out.1
    go_upto_region 17 with (fail)
    have hb := hR.out.2.2.2.2.2.2.1
    have hz := hR.out.2.2.2.2.2.2.2
    have hy2 := block_lt EV.out
    have hyT : y ≠ T := by omega
    have VV := Lib.hid (block_other (block_other ((hb.block _ hy2).trans EV.out) ⟨T, 9, none⟩ (.int .i64 1) hyT) ⟨T, 11, none⟩ (.int .i64 1) hyT)
    have VT := Lib.hid (block_setCell (o := 11) (block_setCell (o := 9) hR.out.1 (.int .i64 1)) (.int .i64 1))
    have VB := Lib.hid ((EB.out.trans (hb.mono EB.out.size)).setCell (p := ⟨T, 9, none⟩) (by have := EB.out.size; simp; omega) (.int .i64 1) |>.setCell (p := ⟨T, 11, none⟩) (by have := EB.out.size; simp; omega) (.int .i64 1))
    have VD := Lib.hid (show DiskAt ((wc.setCell ⟨T, 9, none⟩ (.int .i64 1)).setCell ⟨T, 11, none⟩ (.int .i64 1)) b cap m from by
      have h1 := ED.out.below hb
      have n1 : b ≠ T := by have := block_lt ED.out.blk; omega
      have n2 : m ≠ T := by have := block_lt ED.out.files; omega
      exact ⟨block_other (block_other h1.blk _ _ n1) _ _ n1, block_other (block_other h1.files _ _ n2) _ _ n2⟩)
    have VA := Lib.hid (⟨hR.out.2.1, hR.out.2.2.2.2.1, hR.out.2.2.2.2.2.1, show w.heap.size ≤ T by have := EB.out.size; omega⟩ : arr[8]? = some (.int .i64 0) ∧ arr[12]? = some (.slice none 0 0) ∧ arr[16]? = some (.int .i64 0) ∧ w.heap.size ≤ T)
    clear hb hz hyT EV ED EB EF hR c9 c11 hf lT
    generalize (wc.setCell ⟨T, 9, none⟩ (.int .i64 1)).setCell ⟨T, 11, none⟩ (.int .i64 1) = W4 at VV VT VB VD ⊢
    obtain ⟨e0, e1, e2, e3, e4, e5, e6⟩ := cells7 VV.out
    have ly := block_lt VV.out
    clear hy2
    go_wp2_with (fail)
    refine (sweep_none b m cap p W4 VD.out HP.out).mono ?_
    rintro e w5 ⟨rfl, hb5⟩
    clear e0 e1 e2 e3 e4 e5 e6
    have HT := Lib.hid ((hb5.block _ (block_lt VT.out)).trans VT.out)
    have HB := Lib.hid (VB.out.trans (hb5.mono VB.out.size))
    clear VV VT VB VD hb5
    go_wp2_with (fail)
    go_ret2
    obtain ⟨a8, a12, a16, hw⟩ := VA.out
    refine ⟨T, rfl, ⟨cell_block HT.out 8 _ ?_, cell_block HT.out 12 _ ?_, cell_block HT.out 16 _ ?_, block_lt HT.out⟩, hw, HB.out⟩
    · simpa using a8
    · simpa using a12
    · simpa using a16
end Go.Proofs.YtjoaldaldcpfeaaGreatDoor
