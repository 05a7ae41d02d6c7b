/-
  stratalaw16.RaftAlone answers true.
-/
import Derived.Test.YtocogcgnahbpkaaGreatX4
import Derived.Test.YtocogcgnahbpkaaGreatQ0
namespace Go.Proofs.YtocogcgnahbpkaaGreat
open Go.RowKit

theorem data_below {w w' : World} {A : Option Addr} {ds : List (BR × List Int)} {B : Nat} (h : DataS w (· < B) A ds) (hb : Below B w w') : DataS w' (· < B) A ds := h.keep fun i hi => hb.block i hi

set_option maxRecDepth 100000 in
set_option maxHeartbeats 4000000 in
theorem alone_true (a b c : Int) (A : Option Addr) (cp : Nat) (ds : List (BR × List Int)) (again : Int) (w : World) (hD : DataS w (· < w.heap.size) A ds) (hl : ds.length ≤ 140737488351232) :
    Calls Tryz.prog 5 #[.int .i64 a, .int .i64 b, .int .i64 c, .slice A ds.length cp, .int .i64 again] w fun e w' => e = .returned (.bool true) ∧ Below w.heap.size w w' := by
  have HD := Lib.hid hD
  clear hD
  go_enter Tryz.func5, Tryz.ntmps5
  go_wp2_with (fail)
  refine (config_alone a b c _).mono ?_
  rintro e w1 ⟨L, Mo, Bt, pA, pc, rfl, hown, hb1, g1, g2, g3, g4, g5, g6⟩
  have hrow := hown.rowS len_I
  have HB1 := Lib.hid hb1
  clear hown hb1
  go_wp2_with (fail)
  have hbox := World.alloc_at w1 (.cells #[.int .i64 0, .slice pA 1 pc, .int .i64 L, .int .i64 Mo, .int .i64 Bt, .int .i64 5] 27)
  have hb2 := below_alloc1 w1 (.cells #[.int .i64 0, .slice pA 1 pc, .int .i64 L, .int .i64 Mo, .int .i64 Bt, .int .i64 5] 27)
  have hz2 := World.alloc_size w1 (.cells #[.int .i64 0, .slice pA 1 pc, .int .i64 L, .int .i64 Mo, .int .i64 Bt, .int .i64 5] 27)
  have hrow2 := hrow.keep (w' := w1.alloc (.cells #[.int .i64 0, .slice pA 1 pc, .int .i64 L, .int .i64 Mo, .int .i64 Bt, .int .i64 5] 27)) (fun i hi => Below.heap_alloc _ _ _ hi.2)
  obtain ⟨x, hx⟩ : ∃ x, x = w1.heap.size := ⟨_, rfl⟩
  rw [← hx] at hbox hz2
  rw [← hx]
  generalize w1.alloc (.cells #[.int .i64 0, .slice pA 1 pc, .int .i64 L, .int .i64 Mo, .int .i64 Bt, .int .i64 5] 27) = W2 at hbox hb2 hz2 hrow2 ⊢
  have hW2 : Below w.heap.size w W2 := HB1.out.trans (hb2.mono HB1.out.size)
  have HX := Lib.hid hbox
  have HW2 := Lib.hid hW2
  have HXL := Lib.hid (block_lt hbox)
  have hSp : ∀ i, (w.heap.size ≤ i ∧ i < w1.heap.size) → i < W2.heap.size := fun i hi => by omega
  have HD2 := Lib.hid (show DataS W2 (· < w.heap.size) A ds from data_below HD.out hW2)
  have HCW := Lib.hid (world_alone pA pc L Mo Bt _ W2 hrow2 hSp ⟨by decide, by simp, by simp, by simp, g5, by omega, by omega, by omega, by decide, by decide⟩ (by omega) g1)
  clear hbox hb2 hz2 hrow2 hrow hx hSp hW2 HB1
  refine HCW.out.mono ?_
  rintro e w3 ⟨bw, b1, S, F, g, s, c0, rfl, hO, hWt⟩
  have HP := Lib.hid (show Ph W2 w3 bw b1 L Mo Bt 0 [] 0 from .inl ⟨by omega, S, F, 0, g, c0, s, hO, hWt⟩)
  clear hO hWt HCW
  go_wp2_with (fail)
  go_loopw [13] (fun i wr => ∃ k : Nat, i = .int .i64 k ∧ (k : Int) ≤ Mo ∧ Hid (Ph W2 wr bw b1 L Mo Bt 0 [] k)) (fun i _ => (Mo - intOf i).toNat)
  case atStart => exact ⟨0, rfl, by simp; omega, HP⟩
  case round =>
    obtain ⟨k, rfl, hk, hph⟩ := hrel
    obtain ⟨ro, cm, hse⟩ := hph.out.seen
    have hx := (hse.below.block x HXL.out).trans HX.out
    obtain ⟨x0, x1, x2, x3, x4, x5⟩ := cells6 hx
    have hlx := block_lt hx
    obtain ⟨⟨gg, hwb, hst⟩, ⟨g2', hsb, hro, hcm⟩, hbl⟩ := hse
    have c6 := wc6 hwb
    have hlw := block_lt hwb
    by_cases hkm : (k : Int) < Mo
    · have HT := Lib.hid (tick_phase hph.out (by omega) hkm (by decide) (by simp))
      clear hwb hsb hro hcm hbl hx
      go_wp2_with (fail)
      refine HT.out.mono ?_
      rintro e w5 ⟨rfl, hp5⟩
      have HP5 := Lib.hid hp5
      clear hp5 x0 x1 x2 x3 x4 x5 hlx c6 hlw hst
      go_wp2_with (fail)
      exact ⟨⟨k + 1, rfl, by omega, by simpa using HP5⟩, by simp [intOf]; omega⟩
    · have hld : Ld W2 wr bw b1 L Mo Bt 1 [⟨1, 1, []⟩] (k - L) := by simpa using hph.out.led (by omega)
      obtain ⟨_, ⟨g3', hsb3, hro3, hcm3⟩, _⟩ := hld.seen
      have d10 := sc10 hsb3
      have d8 := sc8 hsb3
      rw [hro3] at d10
      have hcm4 : g3'.cm = 1 := by rw [hcm3]; rfl
      rw [hcm4] at d8
      have hlb := block_lt hsb3
      obtain ⟨z, hz⟩ : ∃ z, z = (k : Int) - L := ⟨_, rfl⟩
      rw [← hz] at hld
      have HL := Lib.hid hld
      clear hph hwb hsb hro hcm hbl hx hsb3 hro3 hcm3 hcm4 hld hz
      go_wp2_with (fail)
      clear x0 x1 x2 x3 x4 x5 hlx c6 hlw hst d10 d8 hlb
      go_loopw [15] (fun i wr => ∃ k : Nat, i = .int .i64 k ∧ k ≤ 50 ∧ k ≤ ds.length ∧ Hid (∃ lg : List E, lg.length = k + 1 ∧ Ld W2 wr bw b1 L Mo Bt 1 lg z)) (fun i _ => (50 - intOf i).toNat)
      case atStart => exact ⟨0, rfl, by omega, by omega, Lib.hid ⟨_, rfl, HL.out⟩⟩
      case round =>
        clear HL HP
        obtain ⟨k, rfl, hk5, hkd, hR⟩ := hrel
        obtain ⟨lg, hlg, hld⟩ := hR.out
        have HLG := Lib.hid hlg
        have HL := Lib.hid hld
        by_cases hin : k < ds.length ∧ k < 50
        · obtain ⟨hin1, hin2⟩ := hin
          have hin3 : (k : Int) < 50 := by omega
          have hbl := hld.seen.below
          have hwz := HW2.out.size
          have hD : DataS wr (· < w.heap.size) A ds := HD2.out.keep (fun i hi => hbl.block i (by omega))
          obtain ⟨p, hpk⟩ : ∃ p, ds[k]? = some p := ⟨_, List.getElem?_eq_getElem hin1⟩
          obtain ⟨db, dof, hA, hdb, hdc⟩ := data_at hD hpk
          subst hA
          have hpe := hD.each p (List.mem_of_getElem? hpk)
          have hdl : db < wr.heap.size := by have := hbl.size; omega
          have HPE := Lib.hid hpe
          have HDB := Lib.hid hdb
          have HBL := Lib.hid hbl
          have HPR : Hid (∀ (m0 m1 m2 m3 m4 m5 m6 m7 m8 m9 k13 k14 k15 : Value), Calls Tryz.prog 15 #[.pointer (some ⟨bw, 0, none⟩), .pointer (some ⟨b1, 0, none⟩), .agg #[.int .i64 3, .int .i64 0, m0, m1, m2, m3, m4, m5, m6, m7, m8, m9, .slice (some ⟨wr.heap.size, 0, none⟩) 1 1, k13, k14, k15]] (wr.alloc (.cells #[.slice p.1.A p.1.n p.1.c] 65)) fun e w'' => e = .returned (.tuple #[.int .i64 0, .bool true]) ∧ Ld W2 w'' bw b1 L Mo Bt 1 (lg ++ [⟨lg.length + 1, 1, p.2⟩]) z) := Lib.hid (fun m0 m1 m2 m3 m4 m5 m6 m7 m8 m9 k13 k14 k15 => by
            have hbn := below_alloc1 wr (.cells #[.slice p.1.A p.1.n p.1.c] 65)
            have hzn := World.alloc_size wr (.cells #[.slice p.1.A p.1.n p.1.c] 65)
            have hcn := World.alloc_at wr (.cells #[.slice p.1.A p.1.n p.1.c] 65)
            refine propose_any p.1 p.2 (some ⟨wr.heap.size, 0, none⟩) 1 0 m0 m1 m2 m3 m4 m5 m6 m7 m8 m9 k13 k14 k15 (fun i => i < w.heap.size ∨ i = wr.heap.size) HL.out (by rw [HLG.out]; omega) (by decide) hbn ⟨.inr ⟨_, _, rfl, .inr rfl, fun k y hk j v hv => ?_⟩, fun q hq => ?_⟩ (fun i hi => ?_)
            · have hk0 : k = 0 := by have := (List.getElem?_eq_some_iff.1 hk).1; simp at this; exact this
              subst hk0
              simp at hk; subst hk
              have hj : j = 0 := by have := (List.getElem?_eq_some_iff.1 hv).1; simp [encBR] at this; exact this
              subst hj
              simp [encBR] at hv; subst hv
              simp
            · simp only [List.mem_cons, List.not_mem_nil, or_false] at hq
              subst hq
              exact ⟨((HPE.out.1.keep (fun i hi => hbn.block i (by have := HBL.out.size; have := HW2.out.size; omega))).mono (fun i hi => .inl hi)), HPE.out.2⟩
            · have h1 := HBL.out.size
              have h2 := HW2.out.size
              rcases hi with hi | hi <;> omega)
          clear hpe hdb hbl hD hwz hR hlg hld
          go_wp2_with (fail)
          refine (HPR.out _ _ _ _ _ _ _ _ _ _ _ _ _).mono ?_
          rintro e w5 ⟨rfl, hl5⟩
          have HL5 := Lib.hid hl5
          obtain ⟨_, ⟨g5', hsb5, hro5, hcm5⟩, hbl5⟩ := hl5.seen
          have d8 := sc8 hsb5
          have hcm6 : g5'.cm = 2 + (k : Int) := by rw [hcm5, List.length_append, HLG.out]; simp; omega
          rw [hcm6] at d8
          have hlb5 := block_lt hsb5
          have HBL5 := Lib.hid hbl5
          have HEN := Lib.hid (entry_last hl5 (2 + (k : Int)) (by rw [HLG.out]; omega))
          clear hl5 hsb5 hro5 hcm5 hbl5 hcm6 HPR hdc hdl
          go_wp2_with (fail)
          refine HEN.out.mono ?_
          rintro e w6 ⟨q, rfl, hqb, hqn, hb6, hl6⟩
          clear HEN d8 hlb5
          go_wp2_with (fail)
          have hbox7 := World.alloc_at w6 (.cells #[.int .i64 ((lg.length : Int) + 1), .int .i64 1, .slice q.1.A p.2.length q.1.c] 67)
          have hb7 := below_alloc1 w6 (.cells #[.int .i64 ((lg.length : Int) + 1), .int .i64 1, .slice q.1.A p.2.length q.1.c] 67)
          have hl7 := hl6.keepB hb7
          have hqb7 : Bytes (w6.alloc (.cells #[.int .i64 ((lg.length : Int) + 1), .int .i64 1, .slice q.1.A p.2.length q.1.c] 67)) w6.heap.size q.1.A p.2 := hqb.keep (fun i hi => hb7.cell hi)
          generalize hW7 : w6.alloc (.cells #[.int .i64 ((lg.length : Int) + 1), .int .i64 1, .slice q.1.A p.2.length q.1.c] 67) = W7 at hbox7 hb7 hl7 hqb7 ⊢
          clear hW7
          have hbl7 := hl7.seen.below
          have hbw7 : Below w.heap.size w W7 := HW2.out.trans (hbl7.mono HW2.out.size)
          have hD7 : DataS W7 (· < w.heap.size) (some ⟨db, dof, none⟩) ds := HD2.out.keep (fun i hi => hbl7.block i (by have := HW2.out.size; omega))
          obtain ⟨db', dof', hA', _, hdc7⟩ := data_at hD7 hpk
          injection hA' with hA'
          injection hA' with e1 e2
          subst e1 e2
          obtain ⟨hpr, hpn, _⟩ := hD7.each p (List.mem_of_getElem? hpk)
          have s1 : ∀ j, (convert 65 9 (.slice q.1.A p.2.length q.1.c)).run Tryz.prog (W7.drewN j) = .ok (.string (strOfNums p.2)) (W7.drewN j) := fun j => bytes_str (B := w6.heap.size) (hqb7.drewN j) rfl
          have s2 : ∀ j, (convert 65 9 (.slice p.1.A p.1.n p.1.c)).run Tryz.prog (W7.drewN j) = .ok (.string (strOfNums p.2)) (W7.drewN j) := fun j => bytes_str (B := w.heap.size) ((hpr.row (fun i hi => hi)).drewN j) hpn
          obtain ⟨x0, x1, x2⟩ := cells3 hbox7
          have HL7 := Lib.hid hl7
          have HDB7 := HDB.out
          have hdl7 : db < W7.heap.size := Nat.lt_of_lt_of_le HDB7 hbw7.size
          have hlx7 := block_lt hbox7
          clear hbox7 hb7 hl7 hqb7 hbl7 hbw7 hD7 hpr hpn hqb hqn hb6 hl6 HDB7
          go_quiet (fail)
          clear x0 x1 x2 s1 s2 hdc7 hdl7 hlx7
          go_wp2_with (fail)
          refine ⟨⟨k + 1, rfl, by omega, by omega, Lib.hid ⟨lg ++ [⟨lg.length + 1, 1, p.2⟩], by simp [HLG.out], HL7.out.drewN nq⟩⟩, by simp [intOf]; omega⟩
        · have hor : ¬ (k < ds.length) ∨ (k < ds.length ∧ ¬ (k < 50)) := by omega
          obtain ⟨n, hn⟩ : ∃ n : Nat, n = lg.length := ⟨_, rfl⟩
          have hn60 : n ≤ 60 := by omega
          have HN := Lib.hid hn
          obtain ⟨_, ⟨g5', hsb5, hro5, hcm5⟩, hbl5⟩ := hld.seen
          have d8 := sc8 hsb5
          rw [hcm5, ← hn] at d8
          have hlb5 := block_lt hsb5
          have HCR := Lib.hid (crash_phase again hld (by decide))
          clear hn hR hlg hld hsb5 hro5 hcm5 hbl5
          rcases hor with h1 | ⟨h1, h2⟩
          all_goals
            (try have h3 : ¬ ((k : Int) < 50) := by omega)
            go_wp2_with (fail)
            refine HCR.out.mono ?_
            rintro e w6 ⟨rfl, hp6⟩
            have HP6 := Lib.hid hp6
            clear hp6 HCR d8 hlb5
            go_wp2_with (fail)
            go_loopw [21] (fun i wr => ∃ k : Nat, i = .int .i64 k ∧ (k : Int) ≤ Mo ∧ Hid (Ph W2 wr bw b1 L Mo Bt 1 lg k)) (fun i _ => (Mo - intOf i).toNat)
            case atStart => exact ⟨0, rfl, by simp; omega, HP6⟩
            case round =>
              obtain ⟨k, rfl, hk, hph⟩ := hrel
              obtain ⟨ro, cm, hse⟩ := hph.out.seen
              have hx := (hse.below.block x HXL.out).trans HX.out
              obtain ⟨x0, x1, x2, x3, x4, x5⟩ := cells6 hx
              have hlx := block_lt hx
              by_cases hkm : (k : Int) < Mo
              · have HT := Lib.hid (tick_phase hph.out (by omega) hkm (by decide) (by have := HN.out; omega))
                clear hx hse
                go_wp2_with (fail)
                refine HT.out.mono ?_
                rintro e w5 ⟨rfl, hp5⟩
                have HP5 := Lib.hid hp5
                clear hp5 x0 x1 x2 x3 x4 x5 hlx
                go_wp2_with (fail)
                exact ⟨⟨k + 1, rfl, by omega, by simpa using HP5⟩, by simp [intOf]; omega⟩
              · have hld := hph.out.led (by omega)
                obtain ⟨⟨g6', hwb6, _⟩, ⟨g3', hsb3, hro3, hcm3⟩, hbl6⟩ := hld.seen
                have d10 := sc10 hsb3
                have d8 := sc8 hsb3
                have c7 := wc7 hwb6
                rw [hro3] at d10
                have hcm4 : g3'.cm = (n : Int) + 1 := by rw [hcm3, List.length_append, ← HN.out]; simp
                rw [hcm4] at d8
                have hlb := block_lt hsb3
                have hlw := block_lt hwb6
                have HBF := Lib.hid (HW2.out.trans (hbl6.mono HW2.out.size))
                clear hph hx hsb3 hro3 hcm3 hcm4 hld hwb6 hbl6
                go_wp2
                go_ret
                exact ⟨rfl, HBF.out⟩
end Go.Proofs.YtocogcgnahbpkaaGreat
