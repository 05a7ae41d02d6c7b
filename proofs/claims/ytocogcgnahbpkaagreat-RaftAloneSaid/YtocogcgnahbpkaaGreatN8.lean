/-
  raft.Node of a node alone: sendAll, lead, stand, begin.
-/
import Derived.Test.YtocogcgnahbpkaaGreatN7
namespace Go.Proofs.YtocogcgnahbpkaaGreat
open Go.RowKit

set_option maxRecDepth 100000 in
set_option maxHeartbeats 1000000 in
theorem sendAll_alone (b : Nat) (s : NS) (c : NC) (w : World) (h : w.heap[b]? = some (.cells (ncells s c) 126 (0, 0))) (hp : Own encI 1 3 w 0 (.slice c.pA c.pn c.pc) c.peers) (hl : c.peers.length ≤ 7) (ho : others s.id c.peers = []) :
    Calls Tryz.prog 98 #[.pointer (some ⟨b, 0, none⟩)] w fun e w' => e = .returned (.tuple #[]) ∧ Below w.heap.size w w' := by
  have HO := Lib.hid ho
  clear ho
  go_enter Tryz.func98, Tryz.ntmps98
  go_wp2_with (fail)
  refine (others_any b s c _ h hp hl).mono ?_
  rintro e w1 ⟨A1, k1, rfl, _, hb1⟩
  rw [HO.out]
  simp only [List.length_nil]
  go_wp2_with (fail)
  go_loop [7] (fun i => i = .int .i64 0) (fun _ => 0)
  case atStart => rfl
  case round =>
    subst hrel
    go_wp2
    go_end0
    exact ⟨rfl, hb1⟩

theorem MapG.empty {P : Program} {k : TypeId} {α β : Type} {kenc : α → Value} {venc : β → Value} {w : World} {b n : Nat} (h : w.heap[b]? = some (.map #[] n)) : MapG P k kenc venc w b ([] : List (α × β)) :=
  ⟨_, _, h, MapKept.stamped_empty n, by simp, rfl⟩
theorem MapF.lt {β : Type} {venc : β → Value} {w : World} {F : Nat → Prop} {r : Option Nat} {l : List (Int × β)} (h : MapF venc w F r l) (i : Nat) (hi : r = some i) : i < w.heap.size ∧ F i := by
  subst hi; exact ⟨h.2.lt, h.1⟩

theorem ents_one (w : World) (idx term : Int) (A : Option Addr) (n c : Nat) (data : List Int) (S : Nat → Prop) (hS : ∀ i, S i → i < w.heap.size) (hd : RowS encB 1 w S A data) (hn : n = data.length) (hl : data.length ≤ 140737488351232) :
    EntsS (w.alloc (.cells #[.int .i64 idx, .int .i64 term, .slice A n c] 67)) (fun i => i = w.heap.size ∨ S i) (some ⟨w.heap.size, 0, none⟩) [(⟨idx, term, A, n, c⟩, data)] := by
  refine ⟨.inr ⟨_, _, rfl, .inl rfl, fun k y hk j v hv => ?_⟩, fun p hp => ?_⟩
  · have hk0 : k = 0 := by have := (List.getElem?_eq_some_iff.1 hk).1; simp at this; exact this
    subst hk0
    simp at hk; subst hk
    match j, hv with
    | 0, hv => simp [encLE] at hv; subst hv; simp
    | 1, hv => simp [encLE] at hv; subst hv; simp
    | 2, hv => simp [encLE] at hv; subst hv; simp
  · simp only [List.mem_singleton] at hp
    subst hp
    exact ⟨(hd.keep fun i hi => Below.heap_alloc _ _ _ (hS i hi)).mono fun i hi => .inr hi, hn, hl⟩

theorem turned_term (s : NS) (i : Int) : (s.turned i).term = s.term := by unfold NS.turned; split <;> rfl

theorem turned_snap (s : NS) (i : Int) : (s.turned i).snap = s.snap := by unfold NS.turned; split <;> rfl
theorem turned_commit (s : NS) (i : Int) : (s.turned i).commit = s.commit := by unfold NS.turned; split <;> rfl
theorem turned_id (s : NS) (i : Int) : (s.turned i).id = s.id := by unfold NS.turned; split <;> rfl

/-- A node alone that begins to lead: its numbers. -/
def NS.lead1 (s : NS) (n : Nat) : NS := NS.turned { s with role := 4, leader := s.id, heir := 0, elapsed := 0, beat := 0 } (s.snap + n + 1)
def NS.leadA (s : NS) (l : List E) (np : Nat) : NS :=
  { s.lead1 l.length with commit := countFrom (s.lead1 l.length) (l ++ [⟨s.snap + l.length + 1, s.term, []⟩]) [] np (s.snap + l.length + 1 - s.commit).toNat }

/-- Three new maps for match, next and heard. -/
theorem lead_maps {W1 W2 : World} {F G : Nat → Prop} {b z : Nat} {s : NS} {c : NC} (h : NdAt W1 F G b s c) (hzz : z = W1.heap.size) (hb2 : Below W1.heap.size W1 W2) (hz : W2.heap.size = z + 3) (h1 : W2.heap[z]? = some (.map #[] 0)) (h2 : W2.heap[z + 1]? = some (.map #[] 0)) (h3 : W2.heap[z + 1 + 1]? = some (.map #[] 0)) :
    NdAt (((W2.setCell ⟨b, 16, none⟩ (.map (some z))).setCell ⟨b, 17, none⟩ (.map (some (z + 1)))).setCell ⟨b, 18, none⟩ (.map (some (z + 1 + 1)))) (fun i => F i ∨ (z ≤ i ∧ i < z + 3)) G b s { c with mtR := some z, mt := [], nxR := some (z + 1), nx := [], hdR := some (z + 1 + 1), hd := [] } := by
  subst hzz
  have hF := h.rest.bdF
  have hB2 := (hb2.block b h.lt).trans h.blk
  generalize hzz : W1.heap.size = z at *
  have hbz := hF b h.hb
  have hot : ∀ i, i ≠ b → (((W2.setCell ⟨b, 16, none⟩ (.map (some z))).setCell ⟨b, 17, none⟩ (.map (some (z + 1)))).setCell ⟨b, 18, none⟩ (.map (some (z + 1 + 1)))).heap[i]? = W2.heap[i]? := fun i hi => by
    rw [Below.heap_setCell _ _ _ _ hi, Below.heap_setCell _ _ _ _ hi, Below.heap_setCell _ _ _ _ hi]
  have hch0 : Chg (fun i => i = b) W2 (((W2.setCell ⟨b, 16, none⟩ (.map (some z))).setCell ⟨b, 17, none⟩ (.map (some (z + 1)))).setCell ⟨b, 18, none⟩ (.map (some (z + 1 + 1)))) := chg1 (chg1 (chg1 Chg.refl _) _) _
  have hch := (Chg.ofBelow (F := fun i => i = b) (a := W1) (b := W2) (by rw [hzz]; exact hb2)).trans hch0
  have hr := h.rest
  have K : ∀ {β : Type} {venc : β → Value} {r l}, MapF venc W1 F r l → MapF venc (((W2.setCell ⟨b, 16, none⟩ (.map (some z))).setCell ⟨b, 17, none⟩ (.map (some (z + 1)))).setCell ⟨b, 18, none⟩ (.map (some (z + 1 + 1)))) (fun i => F i ∨ (z ≤ i ∧ i < z + 3)) r l := fun hm =>
    (hm.keepT fun i hi ⟨es, c, h1⟩ => (hot i (by rintro rfl; rw [h.blk] at h1; cases h1)).trans (hb2.block i (by have := hF i hi; omega))).mono fun i hi _ => .inl hi
  refine ⟨?_, .inl h.hb, NCAt.remaps (X := fun i => i = b) (F := F) (w := W1) hr h.blk h.hb hch (fun i hi => .inl hi) (fun i hi => .inl hi) ?_ ?_ ?_ ?_ ?_ (K hr.gr) (K hr.rf) (K hr.sn) ?_⟩
  · exact block_setCell (o := 18) (block_setCell (o := 17) (block_setCell (o := 16) hB2 _) _) _
  · intro i hi
    rcases hi with hi | hi
    · exact .inl hi
    · right; omega
  · intro i hi
    simp only [World.setCell, Array.size_modify]
    rcases hi with hi | hi
    · have := hF i hi; omega
    · omega
  · exact ⟨.inr ⟨Nat.le_refl _, by omega⟩, MapG.empty ((hot z (by omega)).trans h1)⟩
  · exact ⟨.inr ⟨by omega, by omega⟩, MapG.empty ((hot (z + 1) (by omega)).trans h2)⟩
  · exact ⟨.inr ⟨by omega, by omega⟩, MapG.empty ((hot (z + 1 + 1) (by omega)).trans h3)⟩
  · have ha := hr.apart
    have l1 := fun i hi => hF i (hr.gr.lt i hi).2
    have l2 := fun i hi => hF i (hr.rf.lt i hi).2
    have l3 := fun i hi => hF i (hr.sn.lt i hi).2
    clear K hot hch h1 h2 h3 hr h hB2 hch0 hb2
    revert ha l1 l2 l3
    rcases c.grR with _ | g <;> rcases c.rfR with _ | f <;> rcases c.snR with _ | n <;> rcases c.mtR with _ | a1 <;> rcases c.nxR with _ | a2 <;> rcases c.hdR with _ | a3 <;> simp <;> omega

set_option maxRecDepth 100000 in
set_option maxHeartbeats 1000000 in
theorem lead_alone (b : Nat) (s : NS) (c : NC) (F G : Nat → Prop) (w : World) (h : NdAt w F G b s c) (hl : c.peers.length ≤ 7) (ho : others s.id c.peers = []) (h0 : 0 ≤ s.snap) (h1 : s.snap + c.log.length < 1099511627776) (h2 : c.log.length ≤ 65536) (hc0 : s.snap ≤ s.commit) (hc1 : s.commit ≤ s.snap + c.log.length) :
    Calls Tryz.prog 155 #[.pointer (some ⟨b, 0, none⟩)] w fun e w' => e = .returned (.tuple #[]) ∧ ∃ F' c', NdAt w' F' G b (s.leadA (c.log.map con) c.peers.length) c' ∧ c'.log.map con = c.log.map con ++ [⟨s.snap + c.log.length + 1, s.term, []⟩] ∧
      c' = { c with lA := c'.lA, ln := c'.ln, lc := c'.lc, log := c'.log, mtR := some (c'.mtR.getD 0), mt := [], nxR := c'.nxR, nx := [], hdR := c'.hdR, hd := [] } ∧ Chg F w w' ∧ (∀ i, F i → F' i) ∧ (∀ i, F' i → F i ∨ w.heap.size ≤ i) := by
  have hb := h.blk
  have c0 := nc0 hb
  have hf := frozen_block hb
  have c12 := nc12 hb
  have c13 := nc13 hb
  have c14 := nc14 hb
  have c16 := nc16 hb
  have c17 := nc17 hb
  have c18 := nc18 hb
  have c19 := nc19 hb
  have c20 := nc20 hb
  clear hb
  go_enter Tryz.func155, Tryz.ntmps155
  go_wp2_with (fail)
  generalize hW1 : (((((w.setCell ⟨b, 12, none⟩ (.int .i64 4)).setCell ⟨b, 13, none⟩ (.int .i64 s.id)).setCell ⟨b, 20, none⟩ (.int .i64 0)).setCell ⟨b, 14, none⟩ (.int .i64 0)).setCell ⟨b, 19, none⟩ (.int .i64 0)) = W1
  have hB1 := block_setCell (o := 19) (block_setCell (o := 14) (block_setCell (o := 20) (block_setCell (o := 13) (block_setCell (o := 12) h.blk (.int .i64 4)) (.int .i64 s.id)) (.int .i64 0)) (.int .i64 0)) (.int .i64 0)
  have hC1 : Chg (fun i => i = b) w W1 := by rw [← hW1]; repeat (first | exact Chg.refl | refine chg1 ?_ _)
  rw [hW1] at hB1
  have HN1 := Lib.hid (h.scal (s' := { s with role := 4, leader := s.id, heir := 0, elapsed := 0, beat := 0 }) hC1 hB1)
  clear hB1 hW1 c0 hf c12 c13 c14 c16 c17 c18 c19 c20
  rw [run_makeMap]
  go_wp2_with (fail)
  rw [run_makeMap]
  go_wp2_with (fail)
  rw [run_makeMap]
  simp only [World.alloc_size]
  generalize hW2 : ((W1.alloc (.map #[] 0)).alloc (.map #[] 0)).alloc (.map #[] 0) = W2
  have hb2 : Below W1.heap.size W1 W2 := by rw [← hW2]; exact (((Below.refl _ _).alloc (Nat.le_refl _) _).alloc (by simp) _).alloc (by simp; omega) _
  have hm1 : W2.heap[W1.heap.size]? = some (.map #[] 0) := by rw [← hW2]; exact block_alloc (block_alloc (World.alloc_at _ _) _) _
  have hm2 : W2.heap[W1.heap.size + 1]? = some (.map #[] 0) := by rw [← hW2]; have := World.alloc_at (W1.alloc (.map #[] 0)) (.map #[] 0); rw [World.alloc_size] at this; exact block_alloc this _
  have hm3 : W2.heap[W1.heap.size + 1 + 1]? = some (.map #[] 0) := by rw [← hW2]; have := World.alloc_at ((W1.alloc (.map #[] 0)).alloc (.map #[] 0)) (.map #[] 0); rwa [World.alloc_size, World.alloc_size] at this
  have hz2 : W2.heap.size = W1.heap.size + 3 := by rw [← hW2]; simp
  clear hW2
  have HM1 := Lib.hid hm1
  have HM2 := Lib.hid hm2
  have HM3 := Lib.hid hm3
  have HZ2 := Lib.hid hz2
  clear hm1 hm2 hm3 hz2
  have HN2 := Lib.hid (HN1.out.below hb2)
  have hb := HN2.out.blk
  have hf := frozen_block hb
  have c16 := nc16 hb
  have c17 := nc17 hb
  have c18 := nc18 hb
  clear hb
  go_wp2_with (fail)
  generalize hW3 : ((W2.setCell ⟨b, 16, none⟩ (.map (some W1.heap.size))).setCell ⟨b, 17, none⟩ (.map (some (W1.heap.size + 1)))).setCell ⟨b, 18, none⟩ (.map (some (W1.heap.size + 1 + 1))) = W3
  have hN3 := lead_maps HN1.out rfl hb2 HZ2.out HM1.out HM2.out HM3.out
  rw [hW3] at hN3
  have hC3 : Chg F w W3 := by
    rw [← hW3]
    exact chgF (chgF (chgF (((hC1.mono fun i hi => .inl (hi ▸ h.hb))).below hb2) h.hb _) h.hb _) h.hb _
  clear hW3 HM1 HM2 HM3 HZ2 HN2 hb2 hf c16 c17 c18
  have HN3 := Lib.hid hN3
  have hz1 := hC1.size
  have HX := Lib.hid (show (∀ i, F i → i < w.heap.size) ∧ w.heap.size ≤ W1.heap.size from ⟨h.rest.bdF, hC1.size⟩)
  clear hN3 HN1 hC1 h hz1
  generalize hz1 : W1.heap.size = z at HN3 HX ⊢
  clear hz1
  refine (others_any b _ _ W3 HN3.out.blk HN3.out.rest.peers hl).mono ?_
  rintro e w4 ⟨A4, k4, rfl, _, hb4⟩
  rw [show others _ _ = [] from ho]
  simp only [List.length_nil]
  have HN4 := Lib.hid (HN3.out.below hb4)
  have hC4 := hC3.below hb4
  clear HN3 hC3 hb4
  go_wp2_with (fail)
  have hlog : c.ln = c.log.length := HN4.out.rest.log.ents.2.1
  have hlt : s.snap + (c.ln : Int) < 1099511627776 := by omega
  have hl4 : c.ln ≤ 65536 := by omega
  have hsn : s.snap ≤ 1099511627776 := by omega
  have HLG := Lib.hid hlog
  have HXX := Lib.hid (show c.log.length ≤ 65536 from h2)
  clear hlog
  go_loop [39] (fun i => i = .int .i64 0) (fun _ => 0)
  case atStart => rfl
  case round =>
    subst hrel
    have hb4 := HN4.out.blk
    go_wp2_with (fail)
    refine (end_any b _ _ _ hb4 (by show _ ≤ s.snap; omega) (by show s.snap ≤ _; omega) (by show c.ln ≤ _; omega)).mono ?_
    rintro e w5 ⟨rfl, nq5, rfl⟩
    simp only
    have HN5 := Lib.hid (HN4.out.drewN nq5)
    have hC5 := hC4.drewN nq5
    clear HN4 hC4 hb4
    generalize w4.drewN nq5 = w5 at HN5 hC5 ⊢
    have hb5 := HN5.out.blk
    have c6 := nc6 hb5
    simp only at c6
    go_wp2_with (fail)
    have B56 := Lib.hid hb5
    clear hb5
    have h0' : -4611686018427387904 ≤ s.snap := by omega
    have hsn' : s.snap ≤ 4611686018427387904 := by omega
    have hsn2 : s.snap ≤ 2199023255552 := by omega
    have hl4' : c.ln ≤ 4611686018427387 := by omega
    have HL7 := Lib.hid (show c.log.length ≤ 70000 by have := HXX.out; omega)
    have HNE := Lib.hid (show w5.heap.size < w5.heap.size + 1 ∧ w5.heap.size ≠ b from ⟨Nat.lt_succ_self _, fun e => by have := HN5.out.lt; omega⟩)
    have HJ := Lib.hid (fun nq => join_any b _ _ _ G _ (HN5.out.below ((below_drewN' (Below.refl w5.heap.size w5) nq).alloc (Nat.le_refl _) (.cells #[.int .i64 (s.snap + c.ln + 1), .int .i64 s.term, .slice none 0 0] 67))) (some ⟨w5.heap.size, 0, none⟩) 1 1 [(⟨s.snap + c.ln + 1, s.term, none, 0, 0⟩, [])] (fun i => i = w5.heap.size ∨ False)
      (ents_one _ _ _ none 0 0 [] (fun _ => False) (fun _ h => h.elim) (.inl rfl) rfl (by decide)) (fun i hi => hi.elim (fun e => e ▸ ⟨by simp, HNE.out.2⟩) False.elim) rfl (by simp) HL7.out h0 hsn2)
    have W1 : IntKind.i64.wrap (s.snap + (c.ln : Int) + 1) = s.snap + (c.ln : Int) + 1 := IntWalk.i64_in _ (by omega)
    go_region_held3 (fun w' => w'.cell? ⟨b, 6, none⟩ = some (.int .i64 s.term))
      (first | go_keep | (go_split_ands; exact (nc6 HN7.blk).trans (congrArg (fun x => some (Value.int .i64 x)) (turned_term _ _))))
      (first
        | (go_at_call 57; refine (end_any b _ _ w5.drew B56.out h0' hsn' hl4').mono ?_; rintro e w6 ⟨rfl, nq6, rfl⟩)
        | (go_at_call 104; refine (HJ.out _).mono ?_; rintro e w7 ⟨rfl, F7, c7, HN7, hq7, hc7, hC7, hF7, hF7'⟩; rw [if_neg (List.cons_ne_nil _ _)] at HN7))
    clear W1 c6
    have hlen7 : c7.log.length = c.log.length + 1 := by simpa using congrArg List.length hq7
    have HN7' := Lib.hid HN7
    have HQ := Lib.hid hq7
    have HC7 := Lib.hid hc7
    have HL8 := Lib.hid hlen7
    have hFF := Lib.hid (show (∀ i, F i → F7 i) ∧ (∀ i, F7 i → F i ∨ w.heap.size ≤ i) from ⟨fun i hi => hF7 i (.inl hi), fun i hi => by
      have hz := hC5.size
      have := HX.out.2
      rcases hF7' i hi with (h | h) | h
      · exact .inl h
      · right; omega
      · right; simp at h; omega⟩)
    have hC8 : Chg F w w7 := ((hC5.drewN _).alloc _).trans2 hC7 fun i hi => by
      have := HX.out.2
      rcases hi with h | h
      · exact .inl h
      · right; omega
    clear HN7 hq7 hc7 hlen7
    go_wp2_with (fail)
    refine (count_any b _ c7 F7 G w7 HN7'.out z (by rw [HC7.out]) (by rw [turned_snap]; exact h0) (by rw [turned_snap]; exact hsn2) (by rw [HL8.out]; omega) (by rw [turned_snap, turned_commit]; exact hc0) (by rw [turned_snap, turned_commit, HL8.out]; push_cast; show s.commit ≤ s.snap + _; omega) (by rw [show c7.mt = [] by rw [HC7.out]]; decide)).mono ?_
    rintro e w8 ⟨rfl, hC9, HN8⟩
    have HN8' := Lib.hid HN8
    have HC9 := hC8.trans2 hC9 (fun i hi => hFF.out.2 i hi)
    clear HN8 hC9 hC8
    go_wp2_with (fail)
    refine (sendAll_alone b _ c7 w8 HN8'.out.blk HN8'.out.rest.peers (by rw [HC7.out]; exact hl) (by show others (NS.turned _ _).id c7.peers = []; rw [turned_id, HC7.out]; exact ho)).mono ?_
    rintro e w9 ⟨rfl, hb9⟩
    go_wp2
    go_end0
    refine ⟨rfl, F7, c7, ?_, ?_, ?_, HC9.below hb9, hFF.out.1, hFF.out.2⟩
    · have := HN8'.out.below hb9
      have e1 : c7.mt = [] := by rw [HC7.out]
      have e2 : c7.peers = c.peers := by rw [HC7.out]
      rw [e1, e2, HQ.out, HL8.out, HLG.out] at this
      simp only [turned_snap, turned_commit] at this
      simp only [NS.leadA, NS.lead1, List.length_map, turned_snap]
      rw [show (s.snap + (c.log.length : Int) + 1 - s.commit).toNat = (s.snap + ((c.log.length + 1 : Nat) : Int) - s.commit).toNat by congr 1; omega]
      exact this
    · rw [HQ.out, HLG.out]; rfl
    · rw [HC7.out]
      rfl
end Go.Proofs.YtocogcgnahbpkaaGreat
