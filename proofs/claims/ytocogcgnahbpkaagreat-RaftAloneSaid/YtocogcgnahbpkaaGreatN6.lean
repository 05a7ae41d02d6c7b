/-
  raft.Node: what a node owns, when its log, its messages or its maps turn; join, send.
-/
import Derived.Test.YtocogcgnahbpkaaGreatN5
import Derived.Deep.RegionLaw
namespace Go.Proofs.YtocogcgnahbpkaaGreat
open Go.RowKit

section
variable {w w' : World} {F F' G G' : Nat → Prop} {b : Nat} {s : NS} {c : NC}
theorem ne_typed {i : Nat} {a1 a2 : Array Value} {t1 t2 : TypeId} {f1 f2 : Nat × Nat} (h1 : w.heap[i]? = some (Obj.cells a1 t1 f1)) (h2 : w.heap[i]? = some (Obj.cells a2 t2 f2)) : t1 = t2 := by
  rw [h1] at h2; injection h2 with h2; injection h2

/-- The log is another; the node's own block and the log's row have turned. -/
theorem NCAt.relog (h : NCAt w F G c) {arr : Array Value} (hb : w.heap[b]? = some (.cells arr 126 (0, 0))) (hFb : F b) (hc : Chg (fun i => i = b ∨ (Value.slice c.lA c.ln c.lc).ownBlock = some i) w w')
    (hF : ∀ i, F i → F' i) (hF' : ∀ i, F' i → F i ∨ w.heap.size ≤ i) (hbd : ∀ i, F' i → i < w'.heap.size) {A : Option Addr} {n k : Nat} {log : List (LE × List Int)} (hl : EntsF w' F' (.slice A n k) log) :
    NCAt w' F' G { c with lA := A, ln := n, lc := k, log := log } := by
  have hrow : ∀ i, (Value.slice c.lA c.ln c.lc).ownBlock = some i → ∃ cur, w.heap[i]? = some (Obj.cells cur 67 (0, 0)) := fun i hi => h.log.own.typed i hi
  have hcell : ∀ (i : Nat) (cur : Array Value) (t : TypeId), w.heap[i]? = some (Obj.cells cur t (0, 0)) → t ≠ 126 → t ≠ 67 → w'.heap[i]? = w.heap[i]? := by
    intro i cur t h1 h2 h3
    refine hc.keep (block_lt h1) ?_
    rintro (rfl | hi)
    · exact h2 (ne_typed h1 hb)
    · obtain ⟨c2, hr⟩ := hrow i hi
      exact h3 (ne_typed h1 hr)
  have hmap : ∀ (i : Nat) (es : Array MapEntry) (c : Nat), w.heap[i]? = some (Obj.map es c) → w'.heap[i]? = w.heap[i]? := by
    intro i es c h1
    refine hc.keep (block_lt h1) ?_
    rintro (rfl | hi)
    · rw [hb] at h1; cases h1
    · obtain ⟨c2, hr⟩ := hrow i hi
      rw [hr] at h1; cases h1
  have M : ∀ {β : Type} {venc : β → Value} {r l}, MapF venc w F r l → MapF venc w' F' r l := fun h => (h.keepT fun i _ ⟨es, c, h1⟩ => hmap i es c h1).mono fun i hi _ => hF i hi
  refine ⟨hbd, fun i hi => Nat.lt_of_lt_of_le (h.bdG i hi) hc.size, fun i hi hg => ?_, h.peers.same fun k e => ?_, fun k e => hF k (h.peersF k e), hl, M h.mt, M h.nx, M h.hd, M h.gr, M h.rf, M h.sn, h.msgs.keep fun i hi hlt => hc.keep hlt ?_, h.apart⟩
  · rcases hF' i hi with h1 | h1
    · exact h.dis i h1 hg
    · have := h.bdG i hg; omega
  · obtain ⟨cur, h1⟩ := h.peers.typed k e
    exact hcell k cur 3 h1 (by decide) (by decide)
  · rintro (rfl | e)
    · exact h.dis i hFb hi
    · exact h.dis i (h.log.inF i e) hi

/-- The messages are others; the node's own block and their row have turned. -/
theorem NCAt.remsg (h : NCAt w F G c) {arr : Array Value} (hb : w.heap[b]? = some (.cells arr 126 (0, 0))) (hc : Chg (fun i => i = b ∨ (Value.slice c.mA c.mn c.mc).ownBlock = some i) w w')
    (hG' : ∀ i, G' i → G i ∨ w.heap.size ≤ i) (hbd : ∀ i, G' i → i < w'.heap.size) {A : Option Addr} {n k : Nat} {ms : List (MR × List (LE × List Int))} (hm : MsgsF w' G' (.slice A n k) ms) :
    NCAt w' F G' { c with mA := A, mn := n, mc := k, msgs := ms } := by
  have hk : ∀ i, F i → i < w.heap.size → i ≠ b → w'.heap[i]? = w.heap[i]? := by
    intro i hi hl hne
    refine hc.keep hl ?_
    rintro (e | e)
    · exact hne e
    · exact h.dis i hi (h.msgs.inF i e)
  have hcell : ∀ (i : Nat) (cur : Array Value) (t : TypeId), w.heap[i]? = some (Obj.cells cur t (0, 0)) → t ≠ 126 → i ≠ b := by
    rintro i cur t h1 h2 rfl
    exact h2 (ne_typed h1 hb)
  have hmap : ∀ (i : Nat) (es : Array MapEntry) (c : Nat), w.heap[i]? = some (Obj.map es c) → i ≠ b := by
    rintro i es c h1 rfl
    rw [hb] at h1; cases h1
  have M : ∀ {β : Type} {venc : β → Value} {r l}, MapF venc w F r l → MapF venc w' F r l := fun h => h.keepT fun i hi ⟨es, c, h1⟩ => hk i hi (block_lt h1) (hmap i es c h1)
  refine ⟨fun i hi => Nat.lt_of_lt_of_le (h.bdF i hi) hc.size, hbd, fun i hi hg => ?_, h.peers.same fun k e => ?_, h.peersF, h.log.keepT fun i hi ⟨cur, t, h1, h2⟩ => hk i hi (block_lt h1) (hcell i cur t h1 (by rcases h2 with rfl | rfl <;> decide)), M h.mt, M h.nx, M h.hd, M h.gr, M h.rf, M h.sn, hm, h.apart⟩
  · rcases hG' i hg with h1 | h1
    · exact h.dis i hi h1
    · have := h.bdF i hi; omega
  · obtain ⟨cur, h1⟩ := h.peers.typed k e
    exact hk k (h.peersF k e) (block_lt h1) (hcell k cur 3 h1 (by decide))

/-- The maps are others; the node's own block and maps of its own have turned. -/
theorem NCAt.remaps (h : NCAt w F G c) {arr : Array Value} (hb : w.heap[b]? = some (.cells arr 126 (0, 0))) (hFb : F b) {X : Nat → Prop} (hc : Chg X w w') (hX : ∀ i, X i → i = b ∨ F i ∧ ∃ es c, w.heap[i]? = some (Obj.map es c))
    (hF : ∀ i, F i → F' i) (hF' : ∀ i, F' i → F i ∨ w.heap.size ≤ i) (hbd : ∀ i, F' i → i < w'.heap.size) {mtR nxR hdR grR rfR snR : Option Nat} {mt nx : List (Int × Int)} {hd gr rf sn : List (Int × Unit)}
    (hmt : MapF (Value.int .i64) w' F' mtR mt) (hnx : MapF (Value.int .i64) w' F' nxR nx) (hhd : MapF (fun _ => Value.bool true) w' F' hdR hd) (hgr : MapF (fun _ => Value.bool true) w' F' grR gr) (hrf : MapF (fun _ => Value.bool true) w' F' rfR rf) (hsn : MapF (fun _ => Value.bool true) w' F' snR sn)
    (hap : ([mtR, nxR, hdR, grR, rfR, snR].filterMap fun x => x).Nodup) :
    NCAt w' F' G { c with mtR := mtR, mt := mt, nxR := nxR, nx := nx, hdR := hdR, hd := hd, grR := grR, gr := gr, rfR := rfR, rf := rf, snR := snR, sn := sn } := by
  have hcell : ∀ (i : Nat) (cur : Array Value) (t : TypeId), w.heap[i]? = some (Obj.cells cur t (0, 0)) → t ≠ 126 → w'.heap[i]? = w.heap[i]? := by
    intro i cur t h1 h2
    refine hc.keep (block_lt h1) fun hx => ?_
    rcases hX i hx with rfl | ⟨_, es, c, h3⟩
    · exact h2 (ne_typed h1 hb)
    · rw [h3] at h1; cases h1
  refine ⟨hbd, fun i hi => Nat.lt_of_lt_of_le (h.bdG i hi) hc.size, fun i hi hg => ?_, h.peers.same fun k e => ?_, fun k e => hF k (h.peersF k e), (h.log.keepT fun i _ ⟨cur, t, h1, h2⟩ => hcell i cur t h1 (by rcases h2 with rfl | rfl <;> decide)).mono fun i hi _ => hF i hi,
    hmt, hnx, hhd, hgr, hrf, hsn, h.msgs.keepT fun i _ ⟨cur, t, h1, h2⟩ => hcell i cur t h1 (by rcases h2 with rfl | rfl | rfl <;> decide), hap⟩
  · rcases hF' i hi with h1 | h1
    · exact h.dis i h1 hg
    · have := h.bdG i hg; omega
  · obtain ⟨cur, h1⟩ := h.peers.typed k e
    exact hcell k cur 3 h1 (by decide)
end

/-! ### what is read, in blocks of a set -/
def RowS {α : Type} (enc : α → List Value) (sz : Nat) (w : World) (S : Nat → Prop) (A : Option Addr) (xs : List α) : Prop :=
  xs = [] ∨ ∃ b o, A = some ⟨b, o, none⟩ ∧ S b ∧ ∀ k x, xs[k]? = some x → ∀ j v, (enc x)[j]? = some v → w.cell? ⟨b, o + k * sz + j, none⟩ = some v
section
variable {α : Type} {enc : α → List Value} {sz : Nat} {w w' : World} {S S' : Nat → Prop} {A : Option Addr} {xs : List α}
theorem RowS.row (h : RowS enc sz w S A xs) {B : Nat} (hS : ∀ i, S i → i < B) : Row enc sz w B A xs := by
  rcases h with h | ⟨b, o, e, hb, hc⟩
  · exact .inl h
  · exact .inr ⟨b, o, e, hS b hb, hc⟩
theorem RowS.keep (h : RowS enc sz w S A xs) (hk : ∀ i, S i → w'.heap[i]? = w.heap[i]?) : RowS enc sz w' S A xs := by
  rcases h with h | ⟨b, o, e, hb, hc⟩
  · exact .inl h
  · exact .inr ⟨b, o, e, hb, fun k x hx j v hv => (World.cell?_of_block (hk b hb)).trans (hc k x hx j v hv)⟩
theorem RowS.mono (h : RowS enc sz w S A xs) (hs : ∀ i, S i → S' i) : RowS enc sz w S' A xs := by
  rcases h with h | ⟨b, o, e, hb, hc⟩
  · exact .inl h
  · exact .inr ⟨b, o, e, hs b hb, hc⟩
theorem Row.rowS {B : Nat} (h : Row enc sz w B A xs) : RowS enc sz w (fun i => i < B) A xs := h
end
structure EntsS (w : World) (S : Nat → Prop) (A : Option Addr) (ps : List (LE × List Int)) : Prop where
  row : RowS encLE 3 w S A (ps.map (·.1))
  each : ∀ p ∈ ps, RowS encB 1 w S p.1.A p.2 ∧ p.1.n = p.2.length ∧ p.2.length ≤ 140737488351232
section
variable {w w' : World} {S S' : Nat → Prop} {A : Option Addr} {ps : List (LE × List Int)}
theorem EntsS.ents (h : EntsS w S A ps) {B : Nat} (hS : ∀ i, S i → i < B) : Ents w B A ps := ⟨h.row.row hS, fun p hp => ⟨(h.each p hp).1.row hS, (h.each p hp).2⟩⟩
theorem EntsS.keep (h : EntsS w S A ps) (hk : ∀ i, S i → w'.heap[i]? = w.heap[i]?) : EntsS w' S A ps := ⟨h.row.keep hk, fun p hp => ⟨(h.each p hp).1.keep hk, (h.each p hp).2⟩⟩
theorem EntsS.mono (h : EntsS w S A ps) (hs : ∀ i, S i → S' i) : EntsS w S' A ps := ⟨h.row.mono hs, fun p hp => ⟨(h.each p hp).1.mono hs, (h.each p hp).2⟩⟩
theorem EntsS.nil : EntsS w S A [] := ⟨.inl rfl, by simp⟩
end

theorem map_len {qs ps : List (LE × List Int)} {N : Nat} (h : qs.map con = ps.map con) (hl : ps.length ≤ N) : qs.length ≤ N := by
  have := congrArg List.length h
  simp at this; omega

theorem join_post {w w2 w3 w4 : World} {F G : Nat → Prop} {b : Nat} {s s' : NS} {c : NC} (h : NdAt w F G b s c) (hc2 : Chg (fun i => i = b) w w2) (hb3 : Below w2.heap.size w2 w3) {v : Value} {qs : List (LE × List Int)} (hO : OEnts w3 w2.heap.size v qs)
    (hg : w3.grownBy w4 (Value.slice c.lA c.ln c.lc).ownBlock) {A : Option Addr} {n k : Nat} (hown : Own encLE 3 67 w4 0 (.slice A n k) (c.log.map (·.1) ++ qs.map (·.1)))
    (hat : (Value.slice A n k).ownBlock = (Value.slice c.lA c.ln c.lc).ownBlock ∨ (Value.slice A n k).ownBlock = some w3.heap.size) (hB : w4.heap[b]? = some (.cells (ncells s' c) 126 (0, 0))) :
    ∃ F' c', NdAt (w4.setCell ⟨b, 8, none⟩ (.slice A n k)) F' G b s' c' ∧ c'.log.map con = c.log.map con ++ qs.map con ∧ c' = { c with lA := c'.lA, ln := c'.ln, lc := c'.lc, log := c'.log } ∧ Chg F w (w4.setCell ⟨b, 8, none⟩ (.slice A n k)) ∧ (∀ i, F i → F' i) ∧ (∀ i, F' i → F i ∨ w.heap.size ≤ i) := by
  have hz2 := hc2.size
  have hz3 := hb3.size
  have hz4 := hg.size
  have hr := h.rest
  have hch : Chg (fun i => i = b ∨ (Value.slice c.lA c.ln c.lc).ownBlock = some i) w (w4.setCell ⟨b, 8, none⟩ (.slice A n k)) := by
    refine Chg.setCell (Chg.grown (b := w3) ?_ hg (fun j hj => .inl (.inr hj))) (.inl (.inl rfl)) _
    exact ((hc2.mono fun i hi => .inl (.inl hi))).below hb3
  have hrowF : ∀ i, (Value.slice c.lA c.ln c.lc).ownBlock = some i → F i := h.rest.log.inF
  have hbd4 : ∀ i, (Value.slice A n k).ownBlock = some i → i < w4.heap.size := fun i e => (hown.lt i e).2
  have hne : ∀ i, (Value.slice A n k).ownBlock = some i → b ≠ i := by
    rintro i e rfl
    obtain ⟨cur, ht⟩ := hown.typed b e
    exact absurd (ne_typed ht hB) (by decide)
  have hsame : ∀ i, i ≠ b → (w4.setCell ⟨b, 8, none⟩ (.slice A n k)).heap[i]? = w4.heap[i]? := fun i hi => Below.heap_setCell _ _ _ _ hi
  refine ⟨fun i => F i ∨ (w.heap.size ≤ i ∧ i < w4.heap.size), { c with lA := A, ln := n, lc := k, log := c.log ++ qs }, ⟨?_, .inl h.hb, NCAt.relog hr h.blk h.hb hch (fun i hi => .inl hi) (fun i hi => by rcases hi with hi | hi; exact .inl hi; exact .inr hi.1) ?_ ?_⟩, by simp, rfl, ?_, fun i hi => .inl hi, fun i hi => by rcases hi with hi | hi; exact .inl hi; exact .inr hi.1⟩
  · exact block_setCell (o := 8) hB _
  · intro i hi
    rcases hi with hi | hi
    · exact Nat.lt_of_lt_of_le (hr.bdF i hi) hch.size
    · simpa [World.setCell] using hi.2
  · refine ⟨?_, fun i e => ?_, fun q hq => ?_⟩
    · rw [List.map_append]
      exact hown.same fun i e => hsame i (hne i e).symm
    · have h4 := hbd4 i e
      rcases hat with hat | hat
      · exact .inl (hrowF i (hat ▸ e))
      · rw [hat] at e; injection e with e; subst e
        exact .inr ⟨by omega, h4⟩
    · rcases List.mem_append.1 hq with hq | hq
      · obtain ⟨h1, h2, h3⟩ := hr.log.each q hq
        refine ⟨h1.same fun i e => hch.keep (h1.lt i e).2 ?_, fun i e => .inl (h2 i e), h3⟩
        obtain ⟨c1, t1⟩ := h1.typed i e
        rintro (rfl | e2)
        · exact absurd (ne_typed t1 h.blk) (by decide)
        · obtain ⟨c2, t2⟩ := hr.log.own.typed i e2
          exact absurd (ne_typed t1 t2) (by decide)
      · obtain ⟨h1, h2, h3⟩ := hO.each q hq
        have hlt : ∀ i, (Value.slice q.1.A q.1.n q.1.c).ownBlock = some i → w2.heap.size ≤ i ∧ i < w3.heap.size := fun i e => h1.lt i e
        have hbl := h.lt
        refine ⟨((h1.weaken (Nat.zero_le _)).same fun i e => (hg.block i (hlt i e).2 fun e2 => ?_)).same fun i e => hsame i ?_, fun i e => .inr ?_, h3⟩
        · have := hr.log.lt i e2.symm; have := (hlt i e).1; omega
        · have := (hlt i e).1; omega
        · have := hlt i e; omega
  · exact hch.mono fun i hi => by rcases hi with rfl | hi; exact .inl h.hb; exact .inl (hrowF i hi)

set_option maxRecDepth 100000 in
set_option maxHeartbeats 1000000 in
theorem join_any (b : Nat) (s : NS) (c : NC) (F G : Nat → Prop) (w : World) (h : NdAt w F G b s c) (A : Option Addr) (n k : Nat) (ps : List (LE × List Int)) (S : Nat → Prop) (hx : EntsS w S A ps) (hS : ∀ i, S i → i < w.heap.size ∧ i ≠ b) (hn : n = ps.length) (hl : ps.length ≤ 70000) (hll : c.log.length ≤ 70000) (h0 : 0 ≤ s.snap) (h1 : s.snap ≤ 2199023255552) :
    Calls Tryz.prog 104 #[.pointer (some ⟨b, 0, none⟩), .slice A n k] w fun e w' => e = .returned (.tuple #[]) ∧ ∃ F' c', NdAt w' F' G b (if ps = [] then s else s.turned (s.snap + c.log.length + 1)) c' ∧ c'.log.map con = c.log.map con ++ ps.map con ∧
      c' = { c with lA := c'.lA, ln := c'.ln, lc := c'.lc, log := c'.log } ∧ Chg F w w' ∧ (∀ i, F i → F' i) ∧ (∀ i, F' i → F i ∨ w.heap.size ≤ i) := by
  subst hn
  obtain ⟨_, hln, _⟩ := h.rest.log.ents
  have HH := Lib.hid h
  by_cases hz : ps = []
  · subst hz
    clear h
    show Calls Tryz.prog 104 #[.pointer (some ⟨b, 0, none⟩), .slice A 0 k] w _
    go_enter Tryz.func104, Tryz.ntmps104
    go_wp2
    refine bodyPost_ret (results_none rfl _ _ _) rfl ?_
    exact ⟨rfl, F, c, HH.out, by simp, rfl, Chg.refl, fun _ h => h, fun _ h => .inl h⟩
  · have hb := h.blk
    have hb' := h.blk
    have hpos : 0 < ps.length := List.length_pos_iff.2 hz
    have hzb : ((ps.length : Int) == 0) = false := by rw [beq_eq_false_iff_ne]; omega
    have HL := Lib.hid hln
    have hlc : c.ln ≤ 70000 := by omega
    clear hln h
    go_enter Tryz.func104, Tryz.ntmps104
    go_wp2_with (fail)
    refine (end_any b s c _ hb (by omega) (by omega) (by omega)).mono ?_
    rintro e w1 ⟨rfl, nq, rfl⟩
    go_wp2_with (fail)
    refine (turned_any b s c _ (w.drewN nq) hb).mono ?_
    rintro e w2 ⟨rfl, hc2, hb2⟩
    have c8 := nc8 hb2
    have hf := frozen_block hb2
    have H2 := Lib.hid hb2
    have hx2 : Ents w2 w2.heap.size A ps := (hx.keep (w' := w2) fun i hi => hc2.keep (hS i hi).1 (hS i hi).2).ents fun i hi => Nat.lt_of_lt_of_le (hS i hi).1 hc2.size
    have HOL : ∀ w3, Below w2.heap.size w2 w3 → Own encLE 3 67 w3 0 (.slice c.lA c.ln c.lc) (c.log.map (·.1)) := fun w3 hb => HH.out.rest.log.own.same fun k e => by
      have hk := (HH.out.rest.log.own.lt k e).2
      have hkb : k ≠ b := by
        rintro rfl
        obtain ⟨cur, ht⟩ := HH.out.rest.log.own.typed k e
        exact absurd (ne_typed ht hb') (by decide)
      exact (hb.block k (Nat.lt_of_lt_of_le hk hc2.size)).trans (hc2.keep hk hkb)
    have hne8 := Lib.hid (show some b ≠ (Value.slice c.lA c.ln c.lc).ownBlock from fun e => by
      obtain ⟨cur, ht⟩ := HH.out.rest.log.own.typed b e.symm
      exact absurd (ne_typed ht hb) (by decide))
    clear hb2
    have hl7 : ps.length ≤ 100000 := by omega
    go_wp2_with (fail)
    go_region_law
      (first
        | (go_simp; go_at_call 58; refine (copied_any A _ k ps _ hx2.drew rfl hl7).mono ?_; rintro e w3 ⟨v3, qs3, rfl, hO3, hq3, hb3⟩; obtain ⟨A3, k3, rfl⟩ := hO3.own.form; have hql3 := map_len hq3 hl; have row3 := hO3.own.row len_LE; have hb3' : Below w2.heap.size w2 w3 := ⟨hb3.os, hb3.tape, hb3.output, hb3.size, hb3.block⟩; simp only [List.length_map] at hO3; have H3 := Lib.hid ((hb3'.block b (block_lt H2.out)).trans H2.out); have c83 := nc8 H3.out)
        | (refine step_app _ encLE 3 (by rfl) _ _ 46 (by rfl) 0 67 40 Tryz.underlying46 info67 (by omega) len_LE one_LE _ (c.log.map (·.1)) (by rfl) (HOL _ hb3') _ A3 qs3.length k3 (qs3.map (·.1)) (by simp) (by rfl) row3 (by simp; omega) (by simp; omega) (by simp) ?_; intro v4 w4 hown4 hg4 hat4 _; obtain ⟨A4, k4, rfl⟩ := hown4.form; have H4 := Lib.hid ((hg4.block b (block_lt H3.out) hne8.out).trans H3.out); have hf4 := frozen_block H4.out; have c84 := nc8 H4.out))
    all_goals
      go_end0
      have hp := join_post HH.out (show Chg (fun i => i = b) w w2 from ⟨hc2.os, hc2.tape, hc2.output, hc2.size, hc2.block⟩) hb3' hO3 hg4 hown4 hat4 H4.out
      simp only [List.length_append, List.length_map] at hp
      obtain ⟨F', c', g1, g2, g3, g4, g5, g6⟩ := hp
      exact ⟨rfl, F', c', by rw [if_neg hz]; rw [HL.out] at g1; exact g1, by rw [g2, hq3], g3, g4, g5, g6⟩
end Go.Proofs.YtocogcgnahbpkaaGreat
