/-
  raft: goes, configured, stated where they say yes.
-/
import Derived.Test.YtocogcgnahbpkaaGreatN2
namespace Go.Proofs.YtocogcgnahbpkaaGreat
open Go.RowKit

theorem bcell {W w1 : World} (hb : Below W.heap.size W w1) : (∀ b o, b < W.heap.size → w1.cell? ⟨b, o, none⟩ = W.cell? ⟨b, o, none⟩) ∧ (∀ b o, b < W.heap.size → w1.frozen? ⟨b, o, none⟩ = W.frozen? ⟨b, o, none⟩) :=
  ⟨fun b o h => hb.cell (p := ⟨b, o, none⟩) h, fun b o h => hb.frozen (p := ⟨b, o, none⟩) h⟩

def prevT (l : List E) (t : Int) (k : Nat) : Int := if k = 0 then t else ((l[k - 1]?).map (·.term)).getD 0
def LogOK (l : List E) (index term most : Int) : Prop := ∀ (k : Nat) (e : E), l[k]? = some e → e.idx = index + 1 + k ∧ e.idx ≤ 1099511627776 ∧ 1 ≤ e.term ∧ prevT l term k ≤ e.term ∧ e.term ≤ most

set_option maxRecDepth 100000 in
set_option maxHeartbeats 1000000 in
theorem goes_yes (A : Option Addr) (n c : Nat) (ps : List (LE × List Int)) (index term most : Int) (w : World) (hx : Ents w w.heap.size A ps) (hn : n = ps.length) (hl : ps.length ≤ 100000) (hok : LogOK (ps.map con) index term most)
    (h0 : 0 ≤ index) (h1 : index ≤ 1099511627776) (hm : most ≤ 1099511627776) (ht : 0 ≤ term) (ht1 : term ≤ 1099511627776) :
    Calls Tryz.prog 87 #[.slice A n c, .int .i64 index, .int .i64 term, .int .i64 most] w fun e w' => e = .returned (.bool true) ∧ Below w.heap.size w w' := by
  subst hn
  have HOK := Lib.hid hok
  clear hok
  go_enter Tryz.func87, Tryz.ntmps87
  go_wp2
  go_loopw [1, 2, 10, 13] (fun i t _ j wr => ∃ (k : Nat) (tt : Int), j = .int .i64 k ∧ k ≤ ps.length ∧ i = .int .i64 (index + k) ∧ t = .int .i64 tt ∧ Hid (tt = prevT (ps.map con) term k) ∧ 0 ≤ tt ∧ tt ≤ 1099511627776 ∧ Below w.heap.size w wr) (fun _ _ _ j _ => ps.length - (intOf j).toNat)
  case atStart => exact ⟨0, term, rfl, by omega, by simp, rfl, Lib.hid rfl, ht, ht1, Below.refl _ _⟩
  case round =>
    obtain ⟨k, tt, rfl, hk, rfl, rfl, HT, ht0, ht2, hb⟩ := hrel
    by_cases hlt : k < ps.length
    · have hpk := List.getElem?_eq_getElem hlt
      obtain ⟨ba, o, rfl, _, c0, c1, c2⟩ := ents_at (hx.below hb) hpk
      have hok := HOK.out k _ (by rw [List.getElem?_map, hpk]; rfl)
      have HT2 := Lib.hid (show prevT (ps.map con) term (k + 1) = ps[k].1.term by simp [prevT, hpk, con])
      rw [← HT.out] at hok
      clear hpk
      generalize ps[k] = p at c0 c1 c2 hok HT2
      obtain ⟨g1, g2, g3, g4, g5⟩ := hok
      simp only [con] at g1 g2 g3 g4 g5
      have b1 : (p.1.idx != index + k + 1) = false := by rw [bne_eq_false_iff_eq]; omega
      have b2 : max tt 1 ≤ p.1.term := by omega
      have b4 : index + ↑k + 1 ≤ 1099511627776 := by omega
      have b5 : p.1.term ≤ 1099511627776 := by omega
      have b6 : 0 ≤ p.1.term := by omega
      have G1 := Lib.hid g1
      clear g1
      go_wp2
      all_goals first
        | (exfalso; omega)
        | (go_roundw
           case rel => exact ⟨k + 1, p.1.term, by go_num, by omega, by go_num, rfl, Lib.hid HT2.out.symm, b6, b5, hb.alloc hb.size _⟩
           case measure => simp [intOf]; omega)
    · go_wp2
      go_ret
      exact ⟨rfl, hb⟩

structure CfgOK (id : Int) (peers : List Int) (least most beatc batch : Int) : Prop where
  len : peers.length ≤ 7
  rng : ∀ p ∈ peers, 1 ≤ p ∧ p ≤ 7
  rise : peers.Pairwise (· < ·)
  mem : id ∈ peers
  beat1 : 1 ≤ beatc
  beat2 : beatc < least
  most1 : least ≤ most
  most2 : most ≤ 1000
  batch1 : 1 ≤ batch
  batch2 : batch ≤ 16

set_option maxRecDepth 100000 in
set_option maxHeartbeats 1000000 in
theorem configured_yes (id : Int) (A : Option Addr) (n c : Nat) (peers : List Int) (least most beatc batch : Int) (w : World) (hx : Row encI 1 w w.heap.size A peers) (hn : n = peers.length) (hok : CfgOK id peers least most beatc batch) :
    Calls Tryz.prog 63 #[.agg #[.int .i64 id, .slice A n c, .int .i64 least, .int .i64 most, .int .i64 beatc, .int .i64 batch]] w fun e w' => e = .returned (.bool true) ∧ Below w.heap.size w w' := by
  subst hn
  have HOK := Lib.hid hok
  obtain ⟨k1, _, _, _, k5, k6, k7, k8, k9, k10⟩ := hok
  have hm : decide (id ∈ peers) = true := by simpa using HOK.out.mem
  have hx1 : ∀ o : Obj, Row encI 1 (w.alloc o) w.heap.size A peers := fun o => hx.alloc (Nat.le_refl _) o
  have hbw : ∀ o : Obj, Below w.heap.size w (w.alloc o) := fun o => (Below.refl _ _).alloc (Nat.le_refl _) o
  go_enter Tryz.func63, Tryz.ntmps63
  go_wp2
  go_loop [3, 4, 9] (fun _ _ i => ∃ k : Nat, k ≤ peers.length ∧ i = .int .i64 k) (fun _ _ i => peers.length - (intOf i).toNat)
  case atStart => exact ⟨0, Nat.zero_le _, rfl⟩
  case round =>
    obtain ⟨k, hk, rfl⟩ := hrel
    by_cases hlt : k < peers.length
    · have hg := List.getElem?_eq_getElem hlt
      obtain ⟨ba, o, rfl, hba, c0⟩ := ints_at (hx1 (.cells #[.int .i64 id, .slice A peers.length c, .int .i64 least, .int .i64 most, .int .i64 beatc, .int .i64 batch] 27)) hg
      have hy := HOK.out.rng _ (List.getElem_mem hlt)
      have hyb : decide (1 ≤ peers[k] ∧ peers[k] ≤ 7) = true := by simpa using hy
      rcases Nat.eq_zero_or_pos k with hz | hz
      · subst hz
        clear hg
        generalize peers[0] = y at c0 hy hyb
        simp only [Nat.add_zero] at c0
        go_wp2_with (go_at_call 55; refine (within_any _ _ _ _).mono ?_; rintro e w' ⟨rfl, rfl⟩)
        go_round
        case rel => exact ⟨1, by omega, rfl⟩
        case measure => simp [intOf]; omega
      · have hg2 := List.getElem?_eq_getElem (show k - 1 < peers.length by omega)
        have hr := (List.pairwise_iff_getElem.1 HOK.out.rise) (k - 1) k (by omega) hlt (by omega)
        obtain ⟨ba', o', e', _, c3⟩ := ints_at (hx1 (.cells #[.int .i64 id, .slice (some ⟨ba, o, none⟩) peers.length c, .int .i64 least, .int .i64 most, .int .i64 beatc, .int .i64 batch] 27)) hg2
        injection e' with e'
        injection e' with e1 e2
        subst e1 e2
        clear hg hg2
        generalize peers[k] = y at c0 hy hyb hr
        generalize peers[k - 1] = z at c3 hr
        have hz' : (0 : Int) ≤ (k : Int) - 1 := by omega
        have hz2 : ((k : Int) - 1).toNat = k - 1 := by omega
        go_wp2_with (go_at_call 55; refine (within_any _ _ _ _).mono ?_; rintro e w' ⟨rfl, rfl⟩)
        go_round
        case rel => exact ⟨k + 1, by omega, by go_num⟩
        case measure => simp [intOf]; omega
    · have hb1 : decide (1 ≤ batch ∧ batch ≤ 16) = true := by simp; omega
      go_wp2_with (first
        | (go_at_call 55; refine (within_any _ _ _ _).mono ?_; rintro e w' ⟨rfl, rfl⟩)
        | (go_at_call 86; refine (contains_any A _ c peers id _ ((hx1 _).more (by simp)) rfl (by omega)).mono ?_; rintro e w' ⟨rfl, rfl⟩))
      go_ret
      exact ⟨rfl, hbw _⟩

structure StOK (peers : List Int) (term vote snap snapTerm commit : Int) (log : List E) : Prop where
  term0 : 0 ≤ term
  term1 : term ≤ 1099511627776
  vote : vote = 0 ∨ (term ≠ 0 ∧ vote ∈ peers)
  snap0 : 0 ≤ snap
  snap1 : snap ≤ 1099511627776
  snapT : snapTerm = 0 ↔ snap = 0
  snapT0 : 0 ≤ snapTerm
  snapT1 : snapTerm ≤ term
  len : log.length ≤ 65536
  ok : LogOK log snap snapTerm term
  commit0 : snap ≤ commit
  commit1 : commit ≤ snap + log.length

set_option maxRecDepth 100000 in
set_option maxHeartbeats 2000000 in
theorem stated_yes (cid : Int) (pA : Option Addr) (pn pc : Nat) (peers : List Int) (least most beatc batch : Int) (term vote snap snapTerm commit : Int) (lA : Option Addr) (ln lc : Nat) (ps : List (LE × List Int)) (w : World)
    (hp : Row encI 1 w w.heap.size pA peers) (hpn : pn = peers.length) (hp7 : peers.length ≤ 7) (hx : Ents w w.heap.size lA ps) (hn : ln = ps.length) (hok : StOK peers term vote snap snapTerm commit (ps.map con)) :
    Calls Tryz.prog 64 #[.agg #[.int .i64 cid, .slice pA pn pc, .int .i64 least, .int .i64 most, .int .i64 beatc, .int .i64 batch], .agg #[.int .i64 term, .int .i64 vote, .int .i64 snap, .int .i64 snapTerm, .int .i64 commit, .slice lA ln lc]] w
      fun e w' => e = .returned (.bool true) ∧ Below w.heap.size w w' := by
  subst hpn hn
  have HOK := Lib.hid hok
  obtain ⟨k1, k2, kv, k4, k5, k6, k7, k8, k9, _, k11, k12⟩ := hok
  simp only [List.length_map] at k9 k12
  have HST := Lib.hid k6
  clear k6
  have b1 : decide (0 ≤ term ∧ term ≤ 1099511627776) = true := by simp; omega
  have b2 : decide (0 ≤ snap ∧ snap ≤ 1099511627776) = true := by simp; omega
  have b3 : decide (0 ≤ snapTerm ∧ snapTerm ≤ term) = true := by simp; omega
  have b4 : decide (snap ≤ commit ∧ commit ≤ snap + ps.length) = true := by simp; omega
  have b5 : (snapTerm == 0) = (snap == 0) := by
    have := HST.out
    rw [Bool.eq_iff_iff, beq_iff_eq, beq_iff_eq]; exact this
  have k9' : (ps.length : Int) ≤ 65536 := by omega
  have hal : ∀ o1 o2 o3 : Obj, Below w.heap.size w (((w.alloc o1).alloc o2).alloc o3) := fun o1 o2 o3 => (((Below.refl _ _).alloc (Nat.le_refl _) _).alloc (by simp) _).alloc (by simp; omega) _
  have hx3 : ∀ o1 o2 o3 : Obj, Ents (((w.alloc o1).alloc o2).alloc o3) (w.heap.size + 1 + 1 + 1) lA ps := fun o1 o2 o3 => (hx.below (hal _ _ _)).more (by omega)
  have hp3 : ∀ o1 o2 o3 : Obj, Row encI 1 (((w.alloc o1).alloc o2).alloc o3) (w.heap.size + 1 + 1 + 1) pA peers := fun o1 o2 o3 => (hp.below (hal _ _ _)).more (by omega)
  by_cases hv : vote = 0
  · subst hv
    clear kv
    go_enter Tryz.func64, Tryz.ntmps64
    go_wp2_with (first
      | (go_at_call 55; refine (within_any _ _ _ _).mono ?_; rintro e w' ⟨rfl, rfl⟩)
      | (go_at_call 87; refine (goes_yes lA _ lc ps snap snapTerm term _ (by simpa using hx3 _ _ _) rfl (by omega) HOK.out.ok k4 k5 k2 k7 (by omega)).mono ?_; rintro e w' ⟨rfl, hb⟩; obtain ⟨hc, hf⟩ := bcell hb))
    go_ret
    exact ⟨rfl, (hal _ _ _).trans (hb.mono (by simp; omega))⟩
  · have b6 : (vote != 0) = true := by
      rw [bne_iff_ne]; exact hv
    obtain ⟨kt, kv⟩ := kv.resolve_left hv
    have b7 : (term == 0) = false := by simpa using kt
    have b8 : decide (vote ∈ peers) = true := by simpa using kv
    clear kv kt hv
    go_enter Tryz.func64, Tryz.ntmps64
    go_wp2_with (first
      | (go_at_call 55; refine (within_any _ _ _ _).mono ?_; rintro e w' ⟨rfl, rfl⟩)
      | (go_at_call 86; refine (contains_any pA _ pc peers vote _ (by simpa using hp3 _ _ _) rfl (by omega)).mono ?_; rintro e w' ⟨rfl, rfl⟩)
      | (go_at_call 87; refine (goes_yes lA _ lc ps snap snapTerm term _ (by simpa using hx3 _ _ _) rfl (by omega) HOK.out.ok k4 k5 k2 k7 (by omega)).mono ?_; rintro e w' ⟨rfl, hb⟩; obtain ⟨hc, hf⟩ := bcell hb))
    go_ret
    exact ⟨rfl, (hal _ _ _).trans (hb.mono (by simp; omega))⟩
end Go.Proofs.YtocogcgnahbpkaaGreat
