/-
  The world of a node alone: tick, crash.
-/
import Derived.Test.YtocogcgnahbpkaaGreatX1
import Derived.Test.YtocogcgnahbpkaaGreatW4
import Derived.Test.YtocogcgnahbpkaaGreatW6
namespace Go.Proofs.YtocogcgnahbpkaaGreat
open Go.RowKit

theorem One.keepB {w0 w w' : World} {bw b1 : Nat} {S F : Nat → Prop} {h : Nat} {g : WG} {s : NS} {c : NC} {L Mo Bt t : Int} {lg : List E} (hO : One w0 w bw b1 S F h g s c L Mo Bt t lg) (hb : Below w.heap.size w w') : One w0 w' bw b1 S F h g s c L Mo Bt t lg :=
  { hO with
    aw := ⟨hO.aw.at_.below hb, hO.aw.kinv, hO.aw.high, hO.aw.cm0, hO.aw.cmh, hO.aw.vo, hO.aw.le⟩
    nd := hO.nd.below hb
    below := hO.below.trans (hb.mono hO.below.size) }

theorem One.keepD {w0 w : World} {bw b1 : Nat} {S F : Nat → Prop} {h : Nat} {g : WG} {s : NS} {c : NC} {L Mo Bt t : Int} {lg : List E} (hO : One w0 w bw b1 S F h g s c L Mo Bt t lg) (n : Nat) : One w0 (w.drewN n) bw b1 S F h g s c L Mo Bt t lg :=
  hO.keepB ⟨rfl, rfl, rfl, Nat.le_refl _, fun _ _ => rfl⟩

theorem One.dlen {w0 w : World} {bw b1 : Nat} {S F : Nat → Prop} {h : Nat} {g : WG} {s : NS} {c : NC} {L Mo Bt t : Int} {lg : List E} (hO : One w0 w bw b1 S F h g s c L Mo Bt t lg) : g.dl.length = lg.length := by
  rw [← hO.glog]; simp

set_option maxRecDepth 100000 in
set_option maxHeartbeats 4000000 in
theorem tick_one {w0 : World} (w : World) (bw b1 : Nat) (S F : Nat → Prop) (h : Nat) (g : WG) (s : NS) (c : NC) (L Mo Bt t t' : Int) (lg lg' : List E) (R : NS → NC → Prop)
    (hO : One w0 w bw b1 S F h g s c L Mo Bt t lg)
    (hstep : ∀ (m0 m1 m2 m3 m4 m5 m6 m7 m8 m9 k12 k13 k14 k15 : Value), Calls Tryz.prog 15 #[.pointer (some ⟨bw, 0, none⟩), .pointer (some ⟨b1, 0, none⟩), .agg #[.int .i64 1, .int .i64 0, m0, m1, m2, m3, m4, m5, m6, m7, m8, m9, k12, k13, k14, k15]] w fun e w' => e = .returned (.tuple #[.int .i64 0, .bool true]) ∧ ∃ S' F' h' g' c' s', One w0 w' bw b1 S' F' h' g' s' c' L Mo Bt t' lg' ∧ R s' c') :
    Calls Tryz.prog 17 #[.pointer (some ⟨bw, 0, none⟩), .pointer (some ⟨b1, 0, none⟩)] w fun e w' => e = .returned (.bool true) ∧ ∃ S' F' h' g' c' s', One w0 w' bw b1 S' F' h' g' s' c' L Mo Bt t' lg' ∧ R s' c' := by
  have HO := Lib.hid hO
  have HST := Lib.hid hstep
  clear hO hstep
  go_enter Tryz.func17, Tryz.ntmps17
  go_wp2_with (fail)
  go_loopw [5] (fun i wr => (i = .int .i64 0 ∧ wr = w) ∨ (i = .int .i64 1 ∧ Hid (∃ S' F' h' g' c' s', One w0 wr bw b1 S' F' h' g' s' c' L Mo Bt t' lg' ∧ R s' c'))) (fun i _ => (1 - intOf i).toNat)
  case atStart => exact .inl ⟨rfl, rfl⟩
  case round =>
    rcases hrel with ⟨rfl, rfl⟩ | ⟨rfl, hE⟩
    · have ha := HO.out.aw.at_
      have c6 := wc6 ha.wb
      have d0 := sc0 ha.sb
      have hlw := block_lt ha.wb
      have hlb := block_lt ha.sb
      have hse := ha.seat
      have HD := Lib.hid (draw_first bw b1 g S wr ha)
      clear ha
      go_wp2_with (fail)
      refine HD.out.mono ?_
      rintro e w2 ⟨rfl, rfl⟩
      go_wp2_with (fail)
      refine (HST.out _ _ _ _ _ _ _ _ _ _ _ _ _ _).mono ?_
      rintro e w3 ⟨rfl, hE⟩
      have HE := Lib.hid hE
      clear hE c6 d0 hlw hlb hse
      go_wp2_with (fail)
      exact ⟨.inr ⟨rfl, HE⟩, by simp [intOf]⟩
    · obtain ⟨S', F', h', g', c', s', hO', hR⟩ := hE.out
      have HE := Lib.hid (And.intro hO' hR)
      have ha := hO'.aw.at_
      have c6 := wc6 ha.wb
      have hlw := block_lt ha.wb
      have HQ := Lib.hid (quiet_any bw b1 g' S' wr ha (by rw [hO'.dlen]; have := hO'.len; omega))
      clear ha hO' hR hE
      go_wp2_with (fail)
      refine HQ.out.mono ?_
      rintro e w3 ⟨rfl, n, rfl⟩
      go_wp2
      go_ret
      exact ⟨rfl, S', F', h', g', c', s', HE.out.1.keepD n, HE.out.2⟩

set_option maxRecDepth 100000 in
set_option maxHeartbeats 4000000 in
theorem crash_one {w0 : World} (w : World) (bw b1 : Nat) (S F : Nat → Prop) (h : Nat) (g : WG) (s : NS) (c : NC) (L Mo Bt t : Int) (lg : List E) (again : Int) (hO : One w0 w bw b1 S F h g s c L Mo Bt t lg) (ht : 1 ≤ t) :
    Calls Tryz.prog 19 #[.pointer (some ⟨bw, 0, none⟩), .pointer (some ⟨b1, 0, none⟩), .int .i64 again, .int .i64 0] w fun e w' => e = .returned (.bool true) ∧ ∃ S' F' h' g' c' s', One w0 w' bw b1 S' F' h' g' s' c' L Mo Bt t lg ∧ Waits s' L 0 := by
  obtain ⟨cm, hcm⟩ : ∃ cm : Int, cm = if 0 < g.cm then wholeV again 0 g.cm else 0 := ⟨_, rfl⟩
  have hcb : 0 ≤ cm ∧ cm ≤ g.cm := by
    have := hO.aw.cm0
    rw [hcm]
    split
    · exact wholeV_in again this
    · omega
  have hlen := hO.len
  have hgc := hO.gcm
  have hc1 := hO.cm1
  have HW : Hid (0 < g.cm → Calls Tryz.prog 24 #[.int .i64 again, .int .i64 0, .int .i64 g.cm] w fun e w' => e = .returned (.int .i64 cm) ∧ w' = w) := Lib.hid (fun h0 => by
    have := whole_any again 0 g.cm w (by decide) (by omega) (by omega)
    rwa [hcm, if_pos h0])
  have HC0 := Lib.hid (show ¬ 0 < g.cm → cm = 0 from fun h0 => by rw [hcm, if_neg h0])
  have HB : Hid (Calls Tryz.prog 23 #[.pointer (some ⟨bw, 0, none⟩), .pointer (some ⟨b1, 0, none⟩), .int .i64 cm, .int .i64 0, .bool false] w fun e w' => e = .returned (.bool true) ∧ ∃ S' F' h' g' c' s', One w0 w' bw b1 S' F' h' g' s' c' L Mo Bt t lg ∧ Waits s' L 0) := Lib.hid (by
    have ha := hO.aw.at_
    have hgl : g.dl.length = lg.length := hO.dlen
    have hvt := hO.gv
    have hvo := hO.vote
    have hL2 := hO.L2
    have hLM := hO.LM
    have hM30 := hO.M30
    have hB1 := hO.B1
    have hBL := hO.BL
    have ht10 := hO.t10
    have hgt := hO.gt
    have hwb := ha.wb
    have hsb := ha.sb
    unfold wcells at hwb
    unfold scells at hsb
    have hcfg : CfgOK 1 [1] L Mo Bt 5 := ⟨by decide, by simp, by simp, by simp, hB1, hBL, hLM, by omega, by decide, by decide⟩
    rw [hO.gL, hO.gMo, hO.gBt] at hwb
    rw [hgt] at hsb
    refine (begin_world bw b1 S g.pA g.dA g.pc g.dn g.dc L Mo Bt t g.v g.cm g.most g.ro g.le cm 0 _ _ _ _ _ _ _ _ _ g.dl w hwb hsb (fun i hi => ⟨ha.bd i hi, fun e => ha.st i hi (e ▸ .inr (.inl rfl))⟩) ha.peers ha.dl ha.dn ⟨by omega, by omega, ?_, by decide, by decide, Iff.rfl, by decide, by omega, by rw [hO.glog]; omega, by rw [hO.glog]; exact hO.ok, by omega, by rw [hO.glog]; omega⟩ hcfg).mono ?_
    · rw [hvt]
      rcases hvo with h0 | h0
      · exact .inl h0
      · exact .inr ⟨by omega, by rw [h0]; simp⟩
    rintro e w' ⟨rfl, F', bn, c', hN, hs5, hC5, hF5, hcp, hcl, hcn⟩
    have hs : ∀ i, S i → w'.heap[i]? = w.heap[i]? := fun i hi => hC5.keep (ha.bd i hi) fun e => ha.st i hi (e ▸ .inr (.inl rfl))
    refine ⟨rfl, S, F', h, { g with bn := bn, t := t, v := g.v, cm := cm, most := g.most, ro := 1, le := 0, dA := g.dA, dn := g.dn, dc := g.dc, dl := g.dl }, c', NS.new 1 L Mo Bt 5 t g.v 0 0 cm 0, ⟨⟨ha.reseat hC5 hs5 (ha.dl.keep hs) ha.dn ha.dc, ?_, hO.aw.high, hcb.1, Int.le_trans hcb.2 hO.aw.cmh, hO.aw.vo, hO.aw.le⟩, hN, fun i hi => ⟨fun hf => ?_, fun hf => ?_⟩, hO.gL, hO.gMo, hO.gBt, rfl, rfl, rfl, rfl, hO.glog, rfl, rfl, rfl, rfl, rfl, rfl, hcl.trans hO.glog, hcp, ?_, ?_, hcb.1, ?_, hL2, hLM, hM30, hB1, hBL, hO.t0, ht10, hlen, hO.ok, ?_, fun i hi => Nat.le_trans hO.below.size (hF5 i hi), hO.fM⟩, ⟨rfl, rfl, ?_⟩⟩
    · have := hO.aw.kinv; rw [hgt] at this; exact this
    · have := hF5 i hi; have := ha.bd i hf; omega
    · have := hF5 i hi; have := ha.mutLt i hf; omega
    · rw [hcn]; exact ⟨rfl, rfl, rfl, rfl⟩
    · show g.v = 0 ∨ g.v = 1; rw [hvt]; exact hvo
    · show cm ≤ _; omega
    · have c1 : Chg (fun i => w0.heap.size ≤ i) w0 w := Chg.ofBelow hO.below
      exact (c1.trans2 hC5 (fun i hi => .inl (by rw [hi]; exact hO.fM b1 (.inr (.inl rfl))))).toBelow (fun i hi => hi)
    · simp [NS.new, NS.rest])
  have ha := hO.aw.at_
  have d5 := sc5 ha.sb
  have d2 := sc2 ha.sb
  have d8 := sc8 ha.sb
  have hlb := block_lt ha.sb
  have h0 := hO.aw.cm0
  have h2 : g.cm ≤ 1000000 := by omega
  clear ha hO hcm hgc hc1 hlen hcb
  obtain ⟨gcm, hg⟩ : ∃ x, x = g.cm := ⟨_, rfl⟩
  rw [← hg] at HW HC0 d8 h0 h2
  clear hg
  by_cases hp : 0 < gcm
  · have HP := Lib.hid hp
    go_enter Tryz.func19, Tryz.ntmps19
    go_wp2_with (fail)
    refine (HW.out HP.out).mono ?_
    rintro e w2 ⟨rfl, rfl⟩
    go_wp2_with (fail)
    refine HB.out.mono ?_
    rintro e w3 ⟨rfl, hE⟩
    have HE := Lib.hid hE
    clear hE
    go_wp2
    go_ret
    exact ⟨rfl, HE.out⟩
  · have HP := Lib.hid hp
    have hz := HC0.out HP.out
    subst hz
    go_enter Tryz.func19, Tryz.ntmps19
    go_wp2_with (fail)
    refine HB.out.mono ?_
    rintro e w3 ⟨rfl, hE⟩
    have HE := Lib.hid hE
    clear hE
    go_wp2
    go_ret
    exact ⟨rfl, HE.out⟩
end Go.Proofs.YtocogcgnahbpkaaGreat
