/-
  raft.Node.count.
-/
import Derived.Test.YtocogcgnahbpkaaGreatN6
import Derived.Test.YtocogcgnahbpkaaGreatMem4
namespace Go.Proofs.YtocogcgnahbpkaaGreat
open Go.RowKit

theorem NdAt.drewN {w : World} {F G : Nat → Prop} {b : Nat} {s : NS} {c : NC} (h : NdAt w F G b s c) (n : Nat) : NdAt (w.drewN n) F G b s c := h.keep (Nat.le_refl _) fun _ _ _ => rfl

def haveOf (mt : List (Int × Int)) (i : Int) : Nat := 1 + (mt.filter fun p => i ≤ p.2).length
def countFrom (s : NS) (l : List E) (mt : List (Int × Int)) (np : Nat) : Nat → Int
  | 0 => s.commit
  | k + 1 => if lterm s l (s.commit + (k + 1 : Nat)) = s.term then (if np < 2 * haveOf mt (s.commit + (k + 1 : Nat)) then s.commit + (k + 1 : Nat) else countFrom s l mt np k) else s.commit

set_option maxRecDepth 100000 in
set_option maxHeartbeats 2000000 in
theorem count_any (b : Nat) (s : NS) (c : NC) (F G : Nat → Prop) (w : World) (h : NdAt w F G b s c) (m : Nat) (hm : c.mtR = some m) (h0 : 0 ≤ s.snap) (h1 : s.snap ≤ 2199023255552) (h2 : c.log.length ≤ 100000) (hc0 : s.snap ≤ s.commit) (hc1 : s.commit ≤ s.snap + c.log.length) (hml : c.mt.length ≤ 7) :
    Calls Tryz.prog 105 #[.pointer (some ⟨b, 0, none⟩)] w fun e w' => e = .returned (.tuple #[]) ∧ Chg F w w' ∧ NdAt w' F G b { s with commit := countFrom s (c.log.map con) c.mt c.peers.length (s.snap + c.log.length - s.commit).toNat } c := by
  obtain ⟨_, hln, _⟩ := h.rest.log.ents
  have hpn := (Own.cap h.rest.peers).1
  obtain ⟨top, htop⟩ : ∃ top : Nat, s.commit + top = s.snap + c.log.length := ⟨(s.snap + c.log.length - s.commit).toNat, by omega⟩
  have HT := Lib.hid (show (s.snap + c.log.length - s.commit).toNat = top by omega)
  have hb := h.blk
  have HH := Lib.hid h
  have HP := Lib.hid hpn
  have HL := Lib.hid hln
  have HM := Lib.hid hm
  have hl1 : c.ln ≤ 100000 := by omega
  have HTT := Lib.hid htop
  have hE : s.snap + (c.ln : Int) = s.commit + top := by omega
  have HE := Lib.hid hE
  have htl : (top : Int) ≤ 100000 := by omega
  have hcb : s.commit ≤ 3000000000000 := by omega
  clear h hpn hln hm htop hE
  go_enter Tryz.func105, Tryz.ntmps105
  go_wp2_with (fail)
  refine (end_any b s c _ hb (by omega) (by omega) (by omega)).mono ?_
  rintro e w1 ⟨rfl, nq, rfl⟩
  rw [HE.out]
  clear hb
  go_wp2_with (fail)
  go_loopw [2] (fun i wr => ∃ k : Nat, i = .int .i64 (s.commit + k) ∧ k ≤ top ∧ Hid (countFrom s (c.log.map con) c.mt c.peers.length k = countFrom s (c.log.map con) c.mt c.peers.length top) ∧ Below w.heap.size w wr) (fun i _ => (intOf i - s.commit).toNat)
  case atStart => exact ⟨top, rfl, Nat.le_refl _, Lib.hid rfl, below_drewN' (Below.refl _ _) _⟩
  case round =>
    obtain ⟨k, rfl, hk, HC, hbl⟩ := hrel
    have hN := HH.out.below hbl
    have hbw := hN.blk
    have c11 := nc11 hbw
    have c6 := nc6 hbw
    have c16 : wr.cell? ⟨b, 16, none⟩ = some (.map (some m)) := by rw [← HM.out]; exact nc16 hbw
    have hfz := frozen_block hbw
    have HMT : MI wr m c.mt := by
      have := hN.rest.mt
      rw [HM.out] at this
      exact this.2
    have HN := Lib.hid hN
    have HB := Lib.hid hbw
    clear hN hbw
    rcases k with _ | k
    · have hlt : ¬ (s.commit < s.commit + ((0 : Nat) : Int)) := by omega
      go_wp2
      go_quiet (fail)
      go_wp2
      go_end0
      refine ⟨rfl, (Chg.ofBelow hbl).drewN _, ?_⟩
      rw [HT.out, ← HC.out]
      exact HN.out.drewN _
    · obtain ⟨i, hi⟩ : ∃ i : Int, i = s.commit + ((k + 1 : Nat) : Int) := ⟨_, rfl⟩
      rw [← hi]
      have hi1 : s.commit < i := by omega
      have hi2 : i ≤ s.snap + c.log.length := by have := HTT.out; omega
      have hgt : i - 1 = s.commit + (k : Int) := by omega
      have HG := Lib.hid hgt
      have HI := Lib.hid hi
      clear hgt hi
      by_cases ht : lterm s (c.log.map con) i = s.term
      · have htb : (lterm s (c.log.map con) i == s.term) = true := by simpa using ht
        have HTE := Lib.hid ht
        clear ht
        go_wp2
        go_quiet ((go_at_call 107; exact Calls.quiet_of (term_any b s c i F G _ (HN.out.drewN _) (by omega) (by omega) (by omega) hi2 (by omega))))
        have HMT1 : MI (wr.drewN nq) m c.mt := HMT.same rfl
        have HN1 := Lib.hid (HN.out.drewN nq)
        have hbl1 : Below w.heap.size w (wr.drewN nq) := below_drewN' hbl nq
        have c16' : (wr.drewN nq).cell? ⟨b, 16, none⟩ = some (.map (some m)) := c16
        generalize wr.drewN nq = w1 at HMT1 HN1 hbl1 c16' ⊢
        clear HMT HN hbl c16 c11 c6 hfz HB
        go_wp2_with (at_range; refine wp_range _ rfl _ 39 rfl 3 3 Tryz.underlying39 m c.mt rfl HMT1 ?_; intro w2 hrg2 hb2 hz2)
        go_frame
        go_loopw [3, 5] (fun hv _ w3 => ∃ (n : Nat) (left : List (Int × Int)), hv = .int .i64 n ∧ Ranging Tryz.prog 3 (Value.int .i64) (Value.int .i64) w3 m w1.heap.size left ∧ Hid (n + (left.filter fun p => i ≤ p.2).length = haveOf c.mt i) ∧ n + left.length ≤ 8 ∧ Below w1.heap.size w1 w3) (fun _ _ w3 => w3.rangeLeft m w1.heap.size)
        case atStart => exact ⟨1, c.mt, rfl, hrg2, Lib.hid rfl, by omega, hb2⟩
        case round =>
          obtain ⟨n, left, rfl, hrg, HCN, hn8, hb3⟩ := hrel
          have hleq := Lib.hid hrg.left_eq
          go_wp2_with (at_next; refine wp_next _ rfl _ rfl 3 m w1.heap.size left rfl hrg ?_ ?_)
          · intro hl0
            have hcount := HCN.out
            rw [hl0] at hcount
            simp only [List.filter_nil, List.length_nil, Nat.add_zero] at hcount
            have HCN2 := Lib.hid hcount
            clear hl0 hcount
            have hn8' : n ≤ 8 := by omega
            clear hrg
            have hN3 := HN1.out.below hb3
            have hB3 := hN3.blk
            have c11 := nc11 hB3
            have hfz := frozen_block hB3
            have HN3 := Lib.hid hN3
            clear hN3
            by_cases hmaj : c.pn < 2 * n
            · have hmb : decide ((c.pn : Int) < 2 * (n : Int)) = true := by simp; omega
              have HB5 := Lib.hid (block_setCell (o := 11) hB3 (.int .i64 i))
              go_wp2_with (go_at_call 96; refine (majority_any b s c n _ hB3 (by omega) (by omega)).mono ?_; rintro e w4 ⟨rfl, rfl⟩)
              refine bodyPost_ret (results_none rfl _ _ _) rfl ?_
              refine ⟨rfl, chgF ((Chg.ofBelow hbl1).belowN hb3 hbl1.size) HH.out.hb _, ?_⟩
              rw [HT.out, ← HC.out]
              simp only [countFrom]
              rw [← HI.out, if_pos HTE.out, if_pos (by have := HCN2.out; have := HP.out; omega)]
              exact HN3.out.scal (chg1 Chg.refl _) HB5.out
            · have hmb : decide ((c.pn : Int) < 2 * (n : Int)) = false := by simp; omega
              go_wp2_with (go_at_call 96; refine (majority_any b s c n _ hB3 (by omega) (by omega)).mono ?_; rintro e w4 ⟨rfl, rfl⟩)
              go_roundw
              case rel =>
                refine ⟨k, by rw [HG.out], by omega, ?_, hbl1.trans (hb3.mono hbl1.size)⟩
                have h1 := HC.out
                simp only [countFrom] at h1
                rw [← HI.out, if_pos HTE.out, if_neg (by have := HCN2.out; have := HP.out; omega)] at h1
                exact Lib.hid h1
              case measure => simp [intOf]; omega
          · intro p1 p2 left' w4 hp hrg4 hg4 hs4 hen
            have hlen := Lib.hid hp.length_eq
            have hfl := (hp.filter fun p => i ≤ p.2).length_eq
            have hbw4 : Below w1.heap.size w1 w4 := hb3.grown hg4 hb3.size (fun j hj => by injection hj with hj; omega)
            by_cases hpi : i ≤ p2
            · rw [List.filter_cons_of_pos (by simpa using hpi)] at hfl
              have HFL := Lib.hid hfl
              clear hfl hp
              go_wp2
              go_roundw
              case rel =>
                have h1 := HCN.out; have h2 := HFL.out; have h3 := hlen.out
                simp only [List.length_cons] at h2 h3
                exact ⟨n + 1, left', by go_num, hrg4, Lib.hid (by omega), by omega, hbw4⟩
              case measure =>
                rw [hrg4.left_eq, hleq.out]
                have h3 := hlen.out
                simp only [List.length_cons] at h3
                omega
            · rw [List.filter_cons_of_neg (by simpa using hpi)] at hfl
              have HFL := Lib.hid hfl
              clear hfl hp
              go_wp2
              go_roundw
              case rel =>
                have h1 := HCN.out; have h2 := HFL.out; have h3 := hlen.out
                simp only [List.length_cons] at h3
                exact ⟨n, left', rfl, hrg4, Lib.hid (by omega), by omega, hbw4⟩
              case measure =>
                rw [hrg4.left_eq, hleq.out]
                have h3 := hlen.out
                simp only [List.length_cons] at h3
                omega
      · have htb : (lterm s (c.log.map con) i == s.term) = false := by simpa using ht
        go_wp2
        go_quiet ((go_at_call 107; exact Calls.quiet_of (term_any b s c i F G _ (HN.out.drewN _) (by omega) (by omega) (by omega) hi2 (by omega))))
        go_wp2
        go_end0
        refine ⟨rfl, (Chg.ofBelow hbl).drewN _, ?_⟩
        rw [HT.out, ← HC.out]
        simp only [countFrom]
        rw [← HI.out, if_neg ht]
        exact HN.out.drewN _
end Go.Proofs.YtocogcgnahbpkaaGreat
