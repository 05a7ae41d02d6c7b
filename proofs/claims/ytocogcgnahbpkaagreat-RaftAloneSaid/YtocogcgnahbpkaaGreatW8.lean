/-
  The world of a node alone: world.
-/
import Derived.Test.YtocogcgnahbpkaaGreatW7
import Derived.Test.YtocogcgnahbpkaaGreatW2b
namespace Go.Proofs.YtocogcgnahbpkaaGreat
open Go.RowKit

/-- A world of one node: what the world says, what the node says. -/
structure One (w0 w : World) (bw b1 : Nat) (S F : Nat → Prop) (h : Nat) (g : WG) (s : NS) (c : NC) (L Mo Bt t : Int) (lg : List E) : Prop where
  aw : AW w S bw b1 h g
  nd : NdAt w F (fun _ => False) g.bn s c
  dis : ∀ i, F i → ¬ S i ∧ ¬ g.mut bw b1 i
  gL : g.L = L
  gMo : g.Mo = Mo
  gBt : g.Bt = Bt
  gt : g.t = t
  gv : g.v = s.vote
  gcm : g.cm = s.commit
  gro : g.ro = s.role
  glog : g.dl.map con = lg
  sid : s.id = 1
  sL : s.least = L
  sMo : s.most = Mo
  sBt : s.beatc = Bt
  st : s.term = t
  ss : s.snap = 0
  nlog : c.log.map con = lg
  peers : c.peers = [1]
  msgs : c.msgs = [] ∧ c.mA = none ∧ c.mn = 0 ∧ c.mc = 0
  vote : s.vote = 0 ∨ s.vote = 1
  cm0 : 0 ≤ s.commit
  cm1 : s.commit ≤ lg.length
  L2 : 2 ≤ L
  LM : L ≤ Mo
  M30 : Mo ≤ 30
  B1 : 1 ≤ Bt
  BL : Bt < L
  t0 : 0 ≤ t
  t10 : t ≤ 10
  len : lg.length ≤ 1000
  ok : LogOK lg 0 0 t
  below : Below w0.heap.size w0 w
  fF : ∀ i, F i → w0.heap.size ≤ i
  fM : ∀ i, g.mut bw b1 i → w0.heap.size ≤ i

/-- It waits. -/
structure Waits (s : NS) (L k : Int) : Prop where
  role : s.role = 1
  el : s.elapsed = k
  tmo : s.timeout = L

/-- It leads. -/
structure Leads (s : NS) (c : NC) (k : Int) : Prop where
  role : s.role = 4
  el : s.elapsed = k
  b0 : 0 ≤ s.beat
  b1 : s.beat ≤ 100
  heir : s.heir = 0
  le : s.leader = 1
  mt : c.mt = []
  mtR : ∃ m, c.mtR = some m

def encP (b : Nat) : List Value := [.pointer (some ⟨b, 0, none⟩)]
theorem len_P (x : Nat) : (encP x).length = 1 := rfl
theorem one_P (x : Nat) : ∀ u ∈ encP x, u.oneCell' = true := by
  intro u hu
  simp only [encP, List.mem_cons, List.not_mem_nil, or_false] at hu
  rcases hu with rfl
  rfl
theorem info35 : ∃ i z, Tryz.prog.info? 35 = some i ∧ i.zero = some z ∧ i.size = 1 ∧ i.bytes = 8 ∧ z.cells.size = 1 := by
  have h : (Tryz.prog.info? 35).map (fun i => (i.zero, i.size, i.bytes)) = some (some (.pointer none), 1, 8) := by kernel_rfl
  obtain ⟨i, hi, h0, h1, h2⟩ := info_parts h
  exact ⟨i, _, hi, h0, h1, h2, rfl⟩

theorem map_empty {P : Program} {k : TypeId} {α β : Type} {kenc : α → Value} {venc : β → Value} {w : World} {b : Nat} (h : w.heap[b]? = some (.map #[] 0)) : MapG P k kenc venc w b ([] : List (α × β)) :=
  ⟨_, _, h, MapKept.stamped_empty 0, by simp, rfl⟩

theorem one_new {w wf : World} {bw b1 bn x pb po sb so cp sc Z5 : Nat} {L Mo Bt : Int} {Sp F : Nat → Prop} {c : NC}
    (hwb : wf.heap[bw]? = some (.cells #[.int .i64 0, .slice (some ⟨pb, po, none⟩) 1 cp, .int .i64 L, .int .i64 Mo, .int .i64 Bt, .int .i64 5, .slice (some ⟨sb, so, none⟩) 1 sc, .slice none 0 0, .map (some (x + 1)), .map (some (x + 1 + 1)), .map (some (x + 1 + 1 + 1)), .map (some (x + 1 + 1 + 1 + 1)), .int .i64 0, .bool false] 43 (0, 0))) (hsb : wf.heap[b1]? = some (.cells #[.int .i64 1, .pointer (some ⟨bn, 0, none⟩), .pointer none, .int .i64 0, .int .i64 0, .int .i64 0, .int .i64 0, .slice none 0 0, .int .i64 0, .int .i64 0, .int .i64 1, .int .i64 0] 52 (0, 0)))
    (hm1 : wf.heap[x + 1]? = some (.map #[] 0)) (hm2 : wf.heap[x + 1 + 1]? = some (.map #[] 0)) (hm3 : wf.heap[x + 1 + 1 + 1]? = some (.map #[] 0)) (hm4 : wf.heap[x + 1 + 1 + 1 + 1]? = some (.map #[] 0))
    (hx : w.heap.size ≤ x) (hxb : x + 5 = bw) (hb : bw + 1 = b1) (hp : RowS encI 1 wf Sp (some ⟨pb, po, none⟩) [1]) (hSp : ∀ i, Sp i → i < w.heap.size) (hz1 : b1 < Z5) (hz2 : Z5 ≤ sb) (hz3 : sb < wf.heap.size)
    (hcell : wf.cell? ⟨sb, so, none⟩ = some (.pointer (some ⟨b1, 0, none⟩))) (hN : NdAt wf F (fun _ => False) bn (NS.new 1 L Mo Bt 5 0 0 0 0 0 0) c) (hF : ∀ i, F i → b1 < i ∧ i < Z5)
    (hcp : c.peers = [1]) (hcl : c.log.map con = []) (hcn : c = NC.new c.pA c.pn c.pc c.peers c.lA c.ln c.lc c.log) (hcfg : CfgOK 1 [1] L Mo Bt 5) (h30 : Mo ≤ 30) (hL2 : 2 ≤ L) (hbl : Below w.heap.size w wf) :
    ∃ S g, One w wf bw b1 S F 0 g (NS.new 1 L Mo Bt 5 0 0 0 0 0 0) c L Mo Bt 0 [] := by
  have hmt : ∀ i, WG.mut ⟨L, Mo, Bt, some ⟨pb, po, none⟩, cp, sb, so, sc, bn, 0, 0, 0, 0, 1, 0, none, 0, 0, [], x + 1, x + 1 + 1, x + 1 + 1 + 1, x + 1 + 1 + 1 + 1, [], [], [], [], 0⟩ bw b1 i → x < i ∧ i ≤ b1 := by
    intro i hi
    unfold WG.mut at hi
    simp only at hi
    omega
  refine ⟨fun i => Sp i ∨ i = sb, ⟨L, Mo, Bt, some ⟨pb, po, none⟩, cp, sb, so, sc, bn, 0, 0, 0, 0, 1, 0, none, 0, 0, [], x + 1, x + 1 + 1, x + 1 + 1 + 1, x + 1 + 1 + 1 + 1, [], [], [], [], 0⟩,
    ⟨⟨⟨hwb, hsb, fun i hi => ?_, fun i hi hm => ?_, hp.mono (fun i hi => .inl hi), .inr rfl, hcell, EntsS.nil, rfl, Nat.le_refl _, map_empty hm1, map_empty hm2, map_empty hm3, map_empty hm4, ?_, fun p hp => (nomatch hp)⟩, ⟨Nat.le_refl _, fun i hi => absurd hi (Nat.not_lt_zero _), fun i hi => rfl, fun i hi => absurd hi (Nat.not_lt_zero _)⟩, rfl, Int.le_refl _, Int.le_refl _, fun p hp => (nomatch hp), fun p hp => (nomatch hp)⟩,
      hN, fun i hi => ⟨fun hs => ?_, fun hm => ?_⟩, rfl, rfl, rfl, rfl, rfl, rfl, rfl, rfl, rfl, rfl, rfl, rfl, rfl, rfl, hcl, hcp, ?_, .inl rfl, Int.le_refl _, Int.le_refl _, hL2, hcfg.most1, h30, hcfg.beat1, hcfg.beat2, Int.le_refl _, by decide, by decide, fun k e hk => (by simp at hk), hbl, fun i hi => ?_, fun i hi => ?_⟩⟩
  · have := hbl.size
    rcases hi with hi | hi
    · have := hSp i hi; omega
    · omega
  · have := hmt i hm
    rcases hi with hi | hi
    · have := hSp i hi; omega
    · omega
  · simp
  · have := hF i hi
    rcases hs with hs | hs
    · have := hSp i hs; omega
    · omega
  · have := hF i hi
    have := hmt i hm
    omega
  · rw [hcn]; exact ⟨rfl, rfl, rfl, rfl⟩
  · have := hF i hi; omega
  · have := hmt i hi; omega

set_option maxRecDepth 100000 in
set_option maxHeartbeats 4000000 in
theorem world_alone (A : Option Addr) (cp : Nat) (L Mo Bt : Int) (Sp : Nat → Prop) (w : World) (hp : RowS encI 1 w Sp A [1]) (hSp : ∀ i, Sp i → i < w.heap.size) (hcfg : CfgOK 1 [1] L Mo Bt 5) (h30 : Mo ≤ 30) (hL2 : 2 ≤ L) :
    Calls Tryz.prog 8 #[.agg #[.int .i64 0, .slice A 1 cp, .int .i64 L, .int .i64 Mo, .int .i64 Bt, .int .i64 5], .bool false] w fun e w' => ∃ bw b1 S F g s c, e = .returned (.pointer (some ⟨bw, 0, none⟩)) ∧ One w w' bw b1 S F 0 g s c L Mo Bt 0 [] ∧ Waits s L 0 := by
  have HP := Lib.hid hp
  have HSp := Lib.hid hSp
  have HCF := Lib.hid hcfg
  have H30 := Lib.hid h30
  have HL2 := Lib.hid hL2
  clear hp hSp hcfg h30 hL2
  go_enter Tryz.func8, Tryz.ntmps8
  go_wp2_with (fail)
  have hx1 := World.alloc_at w (.cells #[.int .i64 0, .slice A 1 cp, .int .i64 L, .int .i64 Mo, .int .i64 Bt, .int .i64 5] 27)
  have hb1 := below_alloc1 w (.cells #[.int .i64 0, .slice A 1 cp, .int .i64 L, .int .i64 Mo, .int .i64 Bt, .int .i64 5] 27)
  have hz1 := World.alloc_size w (.cells #[.int .i64 0, .slice A 1 cp, .int .i64 L, .int .i64 Mo, .int .i64 Bt, .int .i64 5] 27)
  obtain ⟨x, hx⟩ : ∃ x, x = w.heap.size := ⟨_, rfl⟩
  rw [← hx] at hx1 hz1
  rw [← hx]
  have HX := Lib.hid hx
  clear hx
  generalize w.alloc (.cells #[.int .i64 0, .slice A 1 cp, .int .i64 L, .int .i64 Mo, .int .i64 Bt, .int .i64 5] 27) = W1 at hx1 hb1 hz1 ⊢
  have HX1 := Lib.hid hx1
  have HB1 := Lib.hid hb1
  have HZ1 := Lib.hid hz1
  clear hx1 hb1 hz1
  rw [run_makeMap]
  go_wp2_with (fail)
  rw [run_makeMap]
  go_wp2_with (fail)
  rw [run_makeMap]
  go_wp2_with (fail)
  rw [run_makeMap]
  simp only [World.alloc_size, HZ1.out]
  generalize hW2 : (((W1.alloc (.map #[] 0)).alloc (.map #[] 0)).alloc (.map #[] 0)).alloc (.map #[] 0) = W2
  have hb2 : Below W1.heap.size W1 W2 := by rw [← hW2]; exact ((((Below.refl _ _).alloc (Nat.le_refl _) _).alloc (by simp) _).alloc (by simp; omega) _).alloc (by simp; omega) _
  have hm1 : W2.heap[x + 1]? = some (.map #[] 0) := by rw [← hW2]; have := World.alloc_at W1 (.map #[] 0); rw [HZ1.out] at this; exact block_alloc (block_alloc (block_alloc this _) _) _
  have hm2 : W2.heap[x + 1 + 1]? = some (.map #[] 0) := by rw [← hW2]; have := World.alloc_at (W1.alloc (.map #[] 0)) (.map #[] 0); rw [World.alloc_size, HZ1.out] at this; exact block_alloc (block_alloc this _) _
  have hm3 : W2.heap[x + 1 + 1 + 1]? = some (.map #[] 0) := by rw [← hW2]; have := World.alloc_at ((W1.alloc (.map #[] 0)).alloc (.map #[] 0)) (.map #[] 0); rw [World.alloc_size, World.alloc_size, HZ1.out] at this; exact block_alloc this _
  have hm4 : W2.heap[x + 1 + 1 + 1 + 1]? = some (.map #[] 0) := by rw [← hW2]; have := World.alloc_at (((W1.alloc (.map #[] 0)).alloc (.map #[] 0)).alloc (.map #[] 0)) (.map #[] 0); rwa [World.alloc_size, World.alloc_size, World.alloc_size, HZ1.out] at this
  have hz2 : W2.heap.size = x + 5 := by rw [← hW2]; simp [HZ1.out]
  clear hW2
  have HM1 := Lib.hid hm1
  have HM2 := Lib.hid hm2
  have HM3 := Lib.hid hm3
  have HM4 := Lib.hid hm4
  have HZ2 := Lib.hid hz2
  have HB2 := Lib.hid hb2
  have hx2 : W2.heap[x]? = some (.cells #[.int .i64 0, .slice A 1 cp, .int .i64 L, .int .i64 Mo, .int .i64 Bt, .int .i64 5] 27 (0, 0)) := (hb2.block x (block_lt HX1.out)).trans HX1.out
  have HX2 := Lib.hid hx2
  obtain ⟨x0, x1, x2, x3, x4, x5⟩ := cells6 hx2
  have hlx := block_lt hx2
  clear hm1 hm2 hm3 hm4 hz2 hb2 hx2
  go_wp2_with (fail)
  have hw3 := World.alloc_at W2 (.cells #[.int .i64 0, .slice A 1 cp, .int .i64 L, .int .i64 Mo, .int .i64 Bt, .int .i64 5, .slice none 0 0, .slice none 0 0, .map (some (x + 1)), .map (some (x + 1 + 1)), .map (some (x + 1 + 1 + 1)), .map (some (x + 1 + 1 + 1 + 1)), .int .i64 0, .bool false] 43)
  have hb3 := below_alloc1 W2 (.cells #[.int .i64 0, .slice A 1 cp, .int .i64 L, .int .i64 Mo, .int .i64 Bt, .int .i64 5, .slice none 0 0, .slice none 0 0, .map (some (x + 1)), .map (some (x + 1 + 1)), .map (some (x + 1 + 1 + 1)), .map (some (x + 1 + 1 + 1 + 1)), .int .i64 0, .bool false] 43)
  have hz3 := World.alloc_size W2 (.cells #[.int .i64 0, .slice A 1 cp, .int .i64 L, .int .i64 Mo, .int .i64 Bt, .int .i64 5, .slice none 0 0, .slice none 0 0, .map (some (x + 1)), .map (some (x + 1 + 1)), .map (some (x + 1 + 1 + 1)), .map (some (x + 1 + 1 + 1 + 1)), .int .i64 0, .bool false] 43)
  obtain ⟨bw, hbw⟩ : ∃ bw, bw = W2.heap.size := ⟨_, rfl⟩
  rw [← hbw] at hw3 hz3
  rw [← hbw]
  have HBW := Lib.hid hbw
  clear hbw x0 x1 x2 x3 x4 x5 hlx
  generalize W2.alloc (.cells #[.int .i64 0, .slice A 1 cp, .int .i64 L, .int .i64 Mo, .int .i64 Bt, .int .i64 5, .slice none 0 0, .slice none 0 0, .map (some (x + 1)), .map (some (x + 1 + 1)), .map (some (x + 1 + 1 + 1)), .map (some (x + 1 + 1 + 1 + 1)), .int .i64 0, .bool false] 43) = W3 at hw3 hb3 hz3 ⊢
  have HW3 := Lib.hid hw3
  have HB3 := Lib.hid hb3
  have HZ3 := Lib.hid hz3
  have HX3 := Lib.hid ((hb3.block x (block_lt HX2.out)).trans HX2.out)
  clear hw3 hb3 hz3
  go_loopw [6] (fun i wr => (i = .int .i64 0 ∧ wr = W3) ∨ (i = .int .i64 1 ∧ Hid (wr.heap[x]? = some (.cells #[.int .i64 0, .slice A 1 cp, .int .i64 L, .int .i64 Mo, .int .i64 Bt, .int .i64 5] 27 (0, 0)) ∧ ∃ b1 S F g s c, One w wr bw b1 S F 0 g s c L Mo Bt 0 [] ∧ Waits s L 0))) (fun i _ => (1 - intOf i).toNat)
  case atStart => exact .inl ⟨rfl, rfl⟩
  case round =>
    rcases hrel with ⟨rfl, rfl⟩ | ⟨rfl, hE⟩
    · have hbw3 : Below w.heap.size w wr := HB1.out.trans ((HB2.out.mono HB1.out.size).trans (HB3.out.mono (Nat.le_trans HB1.out.size HB2.out.size)))
      have hrow := HP.out.keep (fun i hi => hbw3.block i (HSp.out i hi))
      have HROW := Lib.hid hrow
      have HBW3 := Lib.hid hbw3
      rcases hrow with h0 | ⟨pb, po, rfl, hpS, hpc⟩
      · cases h0
      have hp0 : wr.cell? ⟨pb, po, none⟩ = some (.int .i64 1) := by simpa [encI] using hpc 0 1 rfl 0 _ rfl
      have hpl : pb < wr.heap.size := Nat.lt_of_lt_of_le (HSp.out pb hpS) hbw3.size
      obtain ⟨x0, x1, x2, x3, x4, x5⟩ := cells6 HX3.out
      have hlx := block_lt HX3.out
      clear hpc hpS hbw3
      go_wp2_with (fail)
      have hs4 := World.alloc_at wr (.cells #[.int .i64 1, .pointer none, .pointer none, .int .i64 0, .int .i64 0, .int .i64 0, .int .i64 0, .slice none 0 0, .int .i64 0, .int .i64 0, .int .i64 0, .int .i64 0] 52)
      have hb4 := below_alloc1 wr (.cells #[.int .i64 1, .pointer none, .pointer none, .int .i64 0, .int .i64 0, .int .i64 0, .int .i64 0, .slice none 0 0, .int .i64 0, .int .i64 0, .int .i64 0, .int .i64 0] 52)
      have hz4 := World.alloc_size wr (.cells #[.int .i64 1, .pointer none, .pointer none, .int .i64 0, .int .i64 0, .int .i64 0, .int .i64 0, .slice none 0 0, .int .i64 0, .int .i64 0, .int .i64 0, .int .i64 0] 52)
      obtain ⟨b1, hb1⟩ : ∃ b1, b1 = wr.heap.size := ⟨_, rfl⟩
      rw [← hb1] at hs4 hz4
      rw [← hb1]
      have HBB := Lib.hid hb1
      clear hb1 x0 x1 x2 x3 x4 x5 hlx hp0 hpl
      generalize wr.alloc (.cells #[.int .i64 1, .pointer none, .pointer none, .int .i64 0, .int .i64 0, .int .i64 0, .int .i64 0, .slice none 0 0, .int .i64 0, .int .i64 0, .int .i64 0, .int .i64 0] 52) = W4 at hs4 hb4 hz4 ⊢
      have hw4 := (hb4.block bw (block_lt HW3.out)).trans HW3.out
      have hx4 := (hb4.block x (block_lt HX3.out)).trans HX3.out
      have hSP4 : ∀ i, Sp i → i < W4.heap.size ∧ i ≠ b1 := fun i hi => by have h1 := HSp.out i hi; have h2 := HBW3.out.size; have h3 := HBB.out; omega
      have hrow4 := HROW.out.keep (fun i hi => hb4.block i (Nat.lt_of_lt_of_le (HSp.out i hi) HBW3.out.size))
      have HW4 := Lib.hid hw4
      have HX4 := Lib.hid hx4
      have HS4 := Lib.hid hs4
      have HB4 := Lib.hid hb4
      have HZ4 := Lib.hid hz4
      have HR4 := Lib.hid hrow4
      have HSP4 := Lib.hid hSP4
      clear hw4 hx4 hs4 hb4 hz4 hrow4 hSP4
      refine (begin_world bw b1 Sp (some ⟨pb, po, none⟩) none cp 0 0 L Mo Bt 0 0 0 0 0 0 0 0 _ _ _ _ _ _ _ _ (.pointer none) [] W4 HW4.out HS4.out HSP4.out HR4.out EntsS.nil rfl ⟨by decide, by decide, .inl rfl, by decide, by decide, Iff.rfl, by decide, by decide, by decide, fun k e hk => (by simp at hk), by decide, by decide⟩ HCF.out).mono ?_
      rintro e W5 ⟨rfl, F, bn, c, hN, hs5, hC5, hF5, hcp, hcl, hcn⟩
      have hne : bw ≠ b1 := fun e => absurd (ne_typed HW4.out (by rw [e]; exact HS4.out)) (by decide)
      have hxne : x ≠ b1 := fun e => absurd (ne_typed HX4.out (by rw [e]; exact HS4.out)) (by decide)
      have HW5 := Lib.hid ((hC5.keep (block_lt HW4.out) hne).trans HW4.out)
      have HX5 := Lib.hid ((hC5.keep (block_lt HX4.out) hxne).trans HX4.out)
      have HS5 := Lib.hid hs5
      have HC5 := Lib.hid hC5
      have HN5 := Lib.hid hN
      have HF5 := Lib.hid hF5
      have HCP := Lib.hid hcp
      have HCL := Lib.hid hcl
      have HCN := Lib.hid hcn
      clear hN hs5 hC5 hF5 hcp hcl hcn hne hxne
      have d6 : W5.cell? ⟨bw, 6, none⟩ = some (.slice none 0 0) := cell_block HW5.out 6 _ rfl
      have hlh := block_lt HW5.out
      have hrow : Row encP 1 (W5.alloc (.cells #[.pointer (some ⟨b1, 0, none⟩)] 35)) (W5.heap.size + 1) (some ⟨W5.heap.size, 0, none⟩) [b1] := .inr ⟨_, _, rfl, Nat.lt_succ_self _, fun k y hk j v hv => by
        have hk0 : k = 0 := by have := (List.getElem?_eq_some_iff.1 hk).1; simp at this; exact this
        subst hk0
        simp at hk; subst hk
        match j, hv with
        | 0, hv => simp [encP] at hv; subst hv; simp⟩
      go_wp2_with (at_builtin; refine wp_app _ encP 1 rfl _ _ 37 rfl W5.heap.size 35 8 Tryz.underlying37 info35 (by omega) len_P one_P (.slice none 0 0) [] rfl Own.nil _ _ 1 1 [b1] rfl rfl hrow (by simp) (by simp) (by simp) ?_; intro v6 w6 hown6 hg6 hat6 _; have hh6 := (hg6.block bw (by simp; omega) (by simp [Value.ownBlock])).trans (block_alloc HW5.out _); have d16 : w6.cell? ⟨bw, 6, none⟩ = some (.slice none 0 0) := cell_block hh6 6 _ rfl; have hf6 := frozen_block hh6; have hlh6 := block_lt hh6; obtain ⟨A6, c6, rfl⟩ := hown6.form)
      have hrs := hown6.rowS len_P
      have q1 := HX.out
      have q2 := HZ2.out
      have q3 := HBW.out
      have q4 := HZ3.out
      have q5 := HBB.out
      have q6 := HZ4.out
      have q7 := HC5.out.size
      have q8 := hg6.size
      have q9 : (W5.alloc (.cells #[.pointer (some ⟨b1, 0, none⟩)] 35)).heap.size = W5.heap.size + 1 := World.alloc_size _ _
      have hk : ∀ i, i < W5.heap.size → i ≠ bw → (w6.setCell ⟨bw, 6, none⟩ (.slice A6 1 c6)).heap[i]? = W5.heap[i]? := fun i hi hn =>
        (Below.heap_setCell _ _ _ _ hn).trans ((hg6.block i (by omega) (by simp [Value.ownBlock])).trans (Below.heap_alloc _ _ _ hi))
      have hsz : (w6.setCell ⟨bw, 6, none⟩ (.slice A6 1 c6)).heap.size = w6.heap.size := by simp only [World.setCell, Array.size_modify]
      have hk4 : ∀ i, i < W4.heap.size → i ≠ bw → i ≠ b1 → (w6.setCell ⟨bw, 6, none⟩ (.slice A6 1 c6)).heap[i]? = W4.heap[i]? := fun i hi hn hn2 => (hk i (by omega) hn).trans (HC5.out.keep hi hn2)
      have hk2 : ∀ i, i < W2.heap.size → (w6.setCell ⟨bw, 6, none⟩ (.slice A6 1 c6)).heap[i]? = W2.heap[i]? := fun i hi => (hk4 i (by omega) (by omega) (by omega)).trans ((HB4.out.block i (by omega)).trans (HB3.out.block i hi))
      have hbel : Below w.heap.size w (w6.setCell ⟨bw, 6, none⟩ (.slice A6 1 c6)) := by
        have c1 : Chg (fun i => w.heap.size ≤ i) w W4 := Chg.ofBelow (HBW3.out.trans (HB4.out.mono HBW3.out.size))
        have c2 := c1.trans2 HC5.out (fun i hi => .inr (by omega))
        have c3 := (c2.alloc (.cells #[.pointer (some ⟨b1, 0, none⟩)] 35)).grown hg6 (fun k hk => by simp [Value.ownBlock] at hk)
        exact (c3.setCell (p := ⟨bw, 6, none⟩) (.inr (by show w.heap.size ≤ bw; omega)) (.slice A6 1 c6)).toBelow (fun i hi => hi)
      have hrw := HR4.out.keep (fun i hi => hk4 i (HSP4.out i hi).1 (by have := HSp.out i hi; omega) (HSP4.out i hi).2)
      have hNf := HN5.out.keep (w' := w6.setCell ⟨bw, 6, none⟩ (.slice A6 1 c6)) (by omega) (fun i hi hl => hk i hl (fun e => by
        rcases hi with hi | hi
        · have := HF5.out i hi; omega
        · exact hi))
      have hFr : ∀ i, F i → b1 < i ∧ i < W5.heap.size := fun i hi => by have := HF5.out i hi; have := HN5.out.rest.bdF i hi; omega
      refine ⟨.inr ⟨rfl, Lib.hid ⟨(hk x (by omega) (by omega)).trans HX5.out, ?_⟩⟩, by simp [intOf]⟩
      rcases hrs with h0 | ⟨sb, so, rfl, hsS, hsc⟩
      · cases h0
      have hcell : (w6.setCell ⟨bw, 6, none⟩ (.slice (some ⟨sb, so, none⟩) 1 c6)).cell? ⟨sb, so, none⟩ = some (.pointer (some ⟨b1, 0, none⟩)) := by
        rw [World.cell?_of_block (Below.heap_setCell _ _ _ _ (fun e => by simp only at e; omega))]
        simpa [encP] using hsc 0 b1 rfl 0 _ rfl
      have hS5 := HS5.out
      obtain ⟨S, g, hO⟩ := one_new (w := w) (x := x) (cp := cp) (Z5 := W5.heap.size) (by rw [block_setCell hh6]; rfl) ((hk b1 (by omega) (by omega)).trans hS5) ((hk2 _ (by omega)).trans HM1.out) ((hk2 _ (by omega)).trans HM2.out) ((hk2 _ (by omega)).trans HM3.out) ((hk2 _ (by omega)).trans HM4.out) (by omega) (by omega) (by omega) hrw HSp.out (by omega) hsS.1 (by omega) hcell hNf hFr HCP.out HCL.out HCN.out HCF.out H30.out HL2.out hbel
      refine ⟨b1, S, F, g, _, c, hO, rfl, rfl, ?_⟩
      have := HCF.out.most1
      simp [NS.new, NS.rest]
    · obtain ⟨hx, b1, S, F, g, s, c, hO, hWt⟩ := hE.out
      have HE2 := Lib.hid hO
      have HWt := Lib.hid hWt
      obtain ⟨x0, x1, x2, x3, x4, x5⟩ := cells6 hx
      have hlx := block_lt hx
      clear hO hWt hx hE
      go_wp2
      go_ret
      exact ⟨bw, b1, S, F, g, s, c, rfl, HE2.out, HWt.out⟩
end Go.Proofs.YtocogcgnahbpkaaGreat
