/-
  World.done where it says yes.
-/
import Derived.Test.YtocogcgnahbpkaaGreatW3
import Derived.Test.YtocogcgnahbpkaaGreatW2b
namespace Go.Proofs.YtocogcgnahbpkaaGreat
open Go.RowKit

theorem KInv.app {kn : List (Int × (LE × List Int))} {tm : List (Int × Int)} {h : Nat} {lg l : List E} {t : Int} (k : KInv kn tm h lg t) : KInv kn tm h (lg ++ l) t :=
  ⟨by have := k.h1; simp; omega, fun i hi => by
    obtain ⟨q, h1, h2⟩ := k.k i hi
    exact ⟨q, h1, by rw [List.getElem?_append_left (List.getElem?_eq_some_iff.1 h2).1]; exact h2⟩, k.n, k.t⟩

/-- What stays of it in a step. -/
structure SameW (g g' : WG) : Prop where
  L : g'.L = g.L
  Mo : g'.Mo = g.Mo
  Bt : g'.Bt = g.Bt
  bn : g'.bn = g.bn
  mL : g'.mL = g.mL
  mV : g'.mV = g.mV
  mK : g'.mK = g.mK
  mT : g'.mT = g.mT

structure DoneTo (w w' : World) (S : Nat → Prop) (bw b1 : Nat) (g : WG) (t v cm ro le : Int) (es : List E) (S' : Nat → Prop) (h' : Nat) (g' : WG) : Prop where
  aw : AW w' S' bw b1 h' g'
  same : SameW g g'
  t : g'.t = t
  v : g'.v = v
  cm : g'.cm = cm
  ro : g'.ro = ro
  le : g'.le = le
  log : g'.dl.map con = g.dl.map con ++ es
  chg : Chg (g.mut bw b1) w w'
  sub : ∀ i, S i → S' i
  sub' : ∀ i, S' i → S i ∨ w.heap.size ≤ i

theorem app_ents {w : World} {base : Nat} {v1 : Value} {qs1 qs2 : List (LE × List Int)} {A2 : Option Addr} {n2 c2 : Nat} {ty : TypeId} (h1 : OEnts w base v1 qs1) (h2 : OEnts w base (.slice A2 n2 c2) qs2) (hb : base ≤ w.heap.size) (hl : qs1.length + qs2.length ≤ 200000) :
    ∃ v' w', (Builtin.append_ #[46, 46] ty #[v1, .slice A2 n2 c2]).run Tryz.prog w = .ok v' w' ∧ OEnts w' base v' (qs1 ++ qs2) ∧ Below base w w' := by
  have hn := (Own.cap h2.own).1
  subst hn
  obtain ⟨v', w', hrun, hown, hg, hat, _⟩ := run_app (P := Tryz.prog) w encLE 3 (ty := ty) (t := 46) base 67 40 Tryz.underlying46 info67 (by omega) len_LE one_LE v1 (qs1.map (·.1)) h1.own w.heap.size A2 c2 (qs2.map (·.1)) (h2.own.row len_LE) (by simp; omega) (by simp; omega) hb
  refine ⟨v', w', hrun, h1.app (rs := qs2) (fun q hq => ?_) hown hg hat, (Below.refl _ _).grown hg hb (fun j hj => (h1.own.lt j hj).1)⟩
  obtain ⟨o1, o2, o3⟩ := h2.each q hq
  refine ⟨o1, ?_, o3⟩
  cases hk : (Value.slice q.1.A q.1.n q.1.c).ownBlock with
  | none => exact .inl rfl
  | some k =>
    right
    intro e
    obtain ⟨c1, e1⟩ := o1.typed k hk
    obtain ⟨c2', e2⟩ := h1.own.typed k e.symm
    rw [e1] at e2; injection e2 with e2; injection e2 with _ e2; exact absurd e2 (by decide)

theorem relog {W w7 : World} {S : Nat → Prop} {bw b1 : Nat} {g2 : WG} {A : Option Addr} {n k : Nat} {qs : List (LE × List Int)} (hW : WAt W S bw b1 g2) (hb : Below W.heap.size W w7) (hO : OEnts w7 W.heap.size (.slice A n k) qs) :
    WAt (w7.setCell ⟨b1, 7, none⟩ (.slice A n k)) (fun i => S i ∨ (W.heap.size ≤ i ∧ i < w7.heap.size)) bw b1 { g2 with dA := A, dn := n, dc := k, dl := qs } := by
  obtain ⟨he, hn, hk⟩ := hO.entsS
  have hml := hW.mutLt
  have hsz := hb.size
  have h7 := (hW.below hb).mono (S' := fun i => S i ∨ (W.heap.size ≤ i ∧ i < w7.heap.size)) (fun i hi => .inl hi) (fun i hi => by rcases hi with hi | hi; (have := hW.bd i hi; omega); exact hi.2) (fun i hi hm => by rcases hi with hi | hi; exact hW.st i hi hm; (have := hml i hm; omega))
  exact h7.reseat (chg1 Chg.refl _) (by rw [block_setCell h7.sb]; rfl) ((he.mono (fun i hi => .inr hi)).keep (fun i hi => Below.heap_setCell _ _ _ _ (fun e => h7.st i hi (e ▸ .inr (.inl rfl))))) hn hk

theorem done_log {w W2 w7 : World} {S : Nat → Prop} {bw b1 x : Nat} {g : WG} {t v : Int} {r : Array Value} {A : Option Addr} {n k : Nat} {qs12 : List (LE × List Int)} {l : List E} (hW : WAt W2 S bw b1 { g with t := t, v := v }) (hR : W2.heap[x + 1]? = some (.cells r 80 (0, 0))) (hC : Chg (g.mut bw b1) w W2) (hws : w.heap.size ≤ W2.heap.size)
    (hb : Below W2.heap.size W2 w7) (hO : OEnts w7 W2.heap.size (.slice A n k) qs12) (hq : qs12.map con = l) :
    ∃ S2 A2 n2 c2 dl2, WAt (w7.setCell ⟨b1, 7, none⟩ (.slice A n k)) S2 bw b1 { g with t := t, v := v, dA := A2, dn := n2, dc := c2, dl := dl2 } ∧ dl2.map con = l ∧ (w7.setCell ⟨b1, 7, none⟩ (.slice A n k)).heap[x + 1]? = some (.cells r 80 (0, 0)) ∧ Chg (g.mut bw b1) w (w7.setCell ⟨b1, 7, none⟩ (.slice A n k)) ∧ (∀ i, S i → S2 i) ∧ (∀ i, S2 i → S i ∨ w.heap.size ≤ i) := by
  have hbx : b1 ≠ x + 1 := fun e => absurd (ne_typed hW.sb (by rw [e]; exact hR)) (by decide)
  refine ⟨_, _, _, _, _, relog hW hb hO, hq, (Below.heap_setCell _ _ _ _ (fun e => hbx e.symm)).trans ((hb.block _ (block_lt hR)).trans hR), (hC.below hb).setCell (p := ⟨b1, 7, none⟩) (.inl (.inr (.inl rfl))) _, fun i hi => .inl hi, fun i hi => ?_⟩
  rcases hi with hi | hi
  · exact .inl hi
  · right; omega

theorem cell_heap' {w w' : World} {b : Nat} (h : w'.heap[b]? = w.heap[b]?) (o : Nat) : w'.cell? ⟨b, o, none⟩ = w.cell? ⟨b, o, none⟩ := by simp only [World.cell?, h]
theorem step_hrun {P : Program} {w : World} {ops : Array Oper} {o : Oper} {a : Act} {K : Act → World → Prop} {Q : Exit → Act → World → Prop} {E : Prop} (hgd : o.guard = none) (s x : Operand) (t : TypeId)
    (ho : o.op = .call { callee := .builtin .append, args := #[s, x], argTypes := #[t, t] }) (v1 v2 v' : Value) (w' : World) (hv : a.eval s = v1) (hx : a.eval x = v2) (hrun : (Builtin.append_ #[t, t] o.type #[v1, v2]).run P w = .ok v' w')
    (h : K (a.put o.dst v') w') : if Region.wanted o (yielded ops a.tmps) = true then Oper.wp P o a w K Q else E := by
  have hw : Region.wanted o (yielded ops a.tmps) = true := by simp [Region.wanted, hgd]
  rw [if_pos hw]
  unfold Oper.wp execOp
  simp only [ho, resolve, invoke, builtin, Sem.run_bind, Sem.run_pure, Result.andThen_ok, List.map_toArray, List.map_cons, List.map_nil, hv, hx, hrun]
  exact h

set_option maxRecDepth 100000 in
set_option maxHeartbeats 4000000 in
theorem done_yes (bw b1 h : Nat) (g : WG) (S SE : Nat → Prop) (kind draw : Int) (m0 m1 m2 m3 m4 m5 m6 m7 m8 m9 k12 k13 k14 k15 : Value) (t v fr cm ro le fi la : Int) (wrt : Bool) (A : Option Addr) (n kc : Nat) (qs : List (LE × List Int)) (w : World)
    (ha : AW w S bw b1 h g) (hkind : kind = 1 ∨ kind = 3) (hlead : ro = 4 → g.ro ≠ 4 → g.t < t)
    (hAB : (t = g.t ∧ v = g.v) ∨ (g.t < t ∧ wrt = true)) (hv : v = 0 ∨ v = 1) (hl4 : ro = 4 → le = 1) (hc1 : g.cm ≤ cm) (hc2 : cm ≤ g.dl.length + qs.length) (hl : g.dl.length + qs.length ≤ 90000) (hti : okI t)
    (hes : EntsS w SE A qs) (hn : n = qs.length) (hnk : n ≤ kc) (hSE : ∀ i, SE i → i < w.heap.size ∧ ¬ g.mut bw b1 i) (hw1 : wrt = true → fr = g.dl.length + 1) (hw0 : wrt = false → qs = []) :
    Calls Tryz.prog 34 #[.pointer (some ⟨bw, 0, none⟩), .pointer (some ⟨b1, 0, none⟩), .agg #[.int .i64 kind, .int .i64 draw, m0, m1, m2, m3, m4, m5, m6, m7, m8, m9, k12, k13, k14, k15], .agg #[.int .i64 t, .int .i64 v, .bool wrt, .int .i64 fr, .slice A n kc, .slice none 0 0, .int .i64 cm, .slice none 0 0, .int .i64 ro, .int .i64 le, .int .i64 fi, .int .i64 la]] w
      fun e w' => e = .returned (.bool true) ∧ ∃ S' h' g', DoneTo w w' S bw b1 g t v cm ro le (qs.map con) S' h' g' := by
  subst hn
  have HA := Lib.hid ha
  have H1 := Lib.hid hlead
  have H2 := Lib.hid hl4
  have H3 := Lib.hid hes
  have H4 := Lib.hid hSE
  have H5 := Lib.hid hw1
  have H6 := Lib.hid hw0
  have hk4 : (kind == 4) = false := by rcases hkind with rfl | rfl <;> rfl
  have hk5 : (kind == 5) = false := by rcases hkind with rfl | rfl <;> rfl
  have hlb := block_lt ha.at_.sb
  have hlw := block_lt ha.at_.wb
  have d3 := sc3 ha.at_.sb
  have d4 := sc4 ha.at_.sb
  clear ha hlead hl4 hes hSE hw1 hw0 hkind
  go_enter Tryz.func34, Tryz.ntmps34
  go_upto_region 2 with (fail)
  have hb0 : Below w.heap.size w (((w.alloc (.cells #[.int .i64 kind, .int .i64 draw, m0, m1, m2, m3, m4, m5, m6, m7, m8, m9, k12, k13, k14, k15] 61)).alloc (.cells #[.int .i64 t, .int .i64 v, .bool wrt, .int .i64 fr, .slice A qs.length kc, .slice none 0 0, .int .i64 cm, .slice none 0 0, .int .i64 ro, .int .i64 le, .int .i64 fi, .int .i64 la] 80)).alloc (.cells #[.int .i64 g.t, .int .i64 g.v] 45)) := ((below_alloc1 w _).alloc (le_alloc (Nat.le_refl _) _) _).alloc (le_alloc (le_alloc (Nat.le_refl _) _) _) _
  have hE0 : (((w.alloc (.cells #[.int .i64 kind, .int .i64 draw, m0, m1, m2, m3, m4, m5, m6, m7, m8, m9, k12, k13, k14, k15] 61)).alloc (.cells #[.int .i64 t, .int .i64 v, .bool wrt, .int .i64 fr, .slice A qs.length kc, .slice none 0 0, .int .i64 cm, .slice none 0 0, .int .i64 ro, .int .i64 le, .int .i64 fi, .int .i64 la] 80)).alloc (.cells #[.int .i64 g.t, .int .i64 g.v] 45)).heap[w.heap.size]? = some (.cells #[.int .i64 kind, .int .i64 draw, m0, m1, m2, m3, m4, m5, m6, m7, m8, m9, k12, k13, k14, k15] 61 (0, 0)) := block_alloc (block_alloc (World.alloc_at w _) _) _
  have hR0 : (((w.alloc (.cells #[.int .i64 kind, .int .i64 draw, m0, m1, m2, m3, m4, m5, m6, m7, m8, m9, k12, k13, k14, k15] 61)).alloc (.cells #[.int .i64 t, .int .i64 v, .bool wrt, .int .i64 fr, .slice A qs.length kc, .slice none 0 0, .int .i64 cm, .slice none 0 0, .int .i64 ro, .int .i64 le, .int .i64 fi, .int .i64 la] 80)).alloc (.cells #[.int .i64 g.t, .int .i64 g.v] 45)).heap[w.heap.size + 1]? = some (.cells #[.int .i64 t, .int .i64 v, .bool wrt, .int .i64 fr, .slice A qs.length kc, .slice none 0 0, .int .i64 cm, .slice none 0 0, .int .i64 ro, .int .i64 le, .int .i64 fi, .int .i64 la] 80 (0, 0)) := by
    have := block_alloc (World.alloc_at (w.alloc (.cells #[.int .i64 kind, .int .i64 draw, m0, m1, m2, m3, m4, m5, m6, m7, m8, m9, k12, k13, k14, k15] 61)) (.cells #[.int .i64 t, .int .i64 v, .bool wrt, .int .i64 fr, .slice A qs.length kc, .slice none 0 0, .int .i64 cm, .slice none 0 0, .int .i64 ro, .int .i64 le, .int .i64 fi, .int .i64 la] 80)) (.cells #[.int .i64 g.t, .int .i64 g.v] 45)
    rwa [World.alloc_size] at this
  have hO0 : (((w.alloc (.cells #[.int .i64 kind, .int .i64 draw, m0, m1, m2, m3, m4, m5, m6, m7, m8, m9, k12, k13, k14, k15] 61)).alloc (.cells #[.int .i64 t, .int .i64 v, .bool wrt, .int .i64 fr, .slice A qs.length kc, .slice none 0 0, .int .i64 cm, .slice none 0 0, .int .i64 ro, .int .i64 le, .int .i64 fi, .int .i64 la] 80)).alloc (.cells #[.int .i64 g.t, .int .i64 g.v] 45)).heap[w.heap.size + 1 + 1]? = some (.cells #[.int .i64 g.t, .int .i64 g.v] 45 (0, 0)) := by
    have := World.alloc_at ((w.alloc (.cells #[.int .i64 kind, .int .i64 draw, m0, m1, m2, m3, m4, m5, m6, m7, m8, m9, k12, k13, k14, k15] 61)).alloc (.cells #[.int .i64 t, .int .i64 v, .bool wrt, .int .i64 fr, .slice A qs.length kc, .slice none 0 0, .int .i64 cm, .slice none 0 0, .int .i64 ro, .int .i64 le, .int .i64 fi, .int .i64 la] 80)) (.cells #[.int .i64 g.t, .int .i64 g.v] 45)
    rwa [World.alloc_size, World.alloc_size] at this
  obtain ⟨x, hx⟩ : ∃ x, x = w.heap.size := ⟨_, rfl⟩
  rw [← hx] at hE0 hR0 hO0
  rw [← hx]
  have HX := Lib.hid hx
  clear hx hlb hlw d3 d4
  generalize ((w.alloc (.cells #[.int .i64 kind, .int .i64 draw, m0, m1, m2, m3, m4, m5, m6, m7, m8, m9, k12, k13, k14, k15] 61)).alloc (.cells #[.int .i64 t, .int .i64 v, .bool wrt, .int .i64 fr, .slice A qs.length kc, .slice none 0 0, .int .i64 cm, .slice none 0 0, .int .i64 ro, .int .i64 le, .int .i64 fi, .int .i64 la] 80)).alloc (.cells #[.int .i64 g.t, .int .i64 g.v] 45) = W0 at hb0 hE0 hR0 hO0 ⊢
  have HB0 := Lib.hid hb0
  have HE0 := Lib.hid hE0
  have HR0 := Lib.hid hR0
  have HA0 := Lib.hid (AW.mk (HA.out.at_.below hb0) HA.out.kinv HA.out.high HA.out.cm0 HA.out.cmh HA.out.vo HA.out.le)
  have hlr : x + 1 < W0.heap.size := block_lt hR0
  have hlo : x + 1 + 1 < W0.heap.size := block_lt hO0
  obtain ⟨r0, r1, r2, r3, r4, r5, r6, r7, r8, r9, r10, r11⟩ := cells12' hR0
  have o0 : W0.cell? ⟨x + 1 + 1, 0, none⟩ = some (.int .i64 g.t) := cell_block hO0 0 _ rfl
  have o1 : W0.cell? ⟨x + 1 + 1, 1, none⟩ = some (.int .i64 g.v) := cell_block hO0 1 _ rfl
  clear hb0 hE0 hR0 hO0
  go_cut [57] (fun u wx => u = .bool false ∧ wx = W0)
  case first =>
    rcases hAB with ⟨rfl, rfl⟩ | ⟨hlt, rfl⟩
    · have hvv : (g.v != 0) = true ∨ (g.v != 0) = false := by cases (g.v != 0) <;> simp
      rcases hvv with hvv | hvv
      · go_wp2_with (fail)
        go_meet
        exact ⟨rfl, rfl⟩
      · go_wp2_with (fail)
        go_meet
        exact ⟨rfl, rfl⟩
    · have hl1 : decide (t < g.t) = false := by simp; omega
      have hl2 : (t == g.t) = false := by simp; omega
      go_wp2_with (fail)
      go_meet
      exact ⟨rfl, rfl⟩
  case rest =>
    obtain ⟨rfl, rfl⟩ := hcut
    have e0 : wc.cell? ⟨x, 0, none⟩ = some (.int .i64 kind) := cell_block HE0.out 0 _ rfl
    have hle : x < wc.heap.size := block_lt HE0.out
    go_upto_if 121 with fail
    clear e0 hle o0 o1 hlo r0 r1 r2 r3 r4 r5 r6 r7 r8 r9 r10 r11 hlr
    go_cut [] (fun wx => Hid (∃ S2 A2 n2 c2 dl2, WAt wx S2 bw b1 { g with t := t, v := v, dA := A2, dn := n2, dc := c2, dl := dl2 } ∧ dl2.map con = g.dl.map con ++ qs.map con ∧ wx.heap[x + 1]? = some (.cells #[.int .i64 t, .int .i64 v, .bool wrt, .int .i64 fr, .slice A qs.length kc, .slice none 0 0, .int .i64 cm, .slice none 0 0, .int .i64 ro, .int .i64 le, .int .i64 fi, .int .i64 la] 80 (0, 0)) ∧ Chg (g.mut bw b1) w wx ∧ (∀ i, S i → S2 i) ∧ (∀ i, S2 i → S i ∨ w.heap.size ≤ i)))
    case first =>
      cases wrt with
      | false =>
        have hq0 := H6.out rfl
        have hAB0 : t = g.t ∧ v = g.v := by rcases hAB with h | h; exact h; exact absurd h.2 (by decide)
        have HQ0 := Lib.hid (And.intro hq0 hAB0)
        clear hq0 hAB0 hAB
        go_wp2_with (fail)
        go_meet
        obtain ⟨hq0, ht0, hv0⟩ := HQ0.out
        exact Lib.hid ⟨S, g.dA, g.dn, g.dc, g.dl, by rw [ht0, hv0]; exact HA0.out.at_, by rw [hq0]; simp, HR0.out, Chg.ofBelow HB0.out, fun i hi => hi, fun i hi => .inl hi⟩
      | true =>
        obtain rfl : fr = g.dl.length + 1 := H5.out rfl
        have d3 : wc.cell? ⟨b1, 3, none⟩ = some (.int .i64 g.t) := sc3 HA0.out.at_.sb
        have d4 : wc.cell? ⟨b1, 4, none⟩ = some (.int .i64 g.v) := sc4 HA0.out.at_.sb
        have d5 : wc.cell? ⟨b1, 5, none⟩ = some (.int .i64 0) := sc5 HA0.out.at_.sb
        have hfb := frozen_block HA0.out.at_.sb
        have hlb : b1 < wc.heap.size := block_lt HA0.out.at_.sb
        have r0 : wc.cell? ⟨x + 1, 0, none⟩ = some (.int .i64 t) := cell_block HR0.out 0 _ rfl
        have r1 : wc.cell? ⟨x + 1, 1, none⟩ = some (.int .i64 v) := cell_block HR0.out 1 _ rfl
        have r3 : wc.cell? ⟨x + 1, 3, none⟩ = some (.int .i64 ((g.dl.length : Int) + 1)) := cell_block HR0.out 3 _ rfl
        have hlr : x + 1 < wc.heap.size := block_lt HR0.out
        go_upto_region 15 with (fail)
        have hot1 : ∀ i, i ≠ b1 → ((wc.setCell ⟨b1, 3, none⟩ (.int .i64 t)).setCell ⟨b1, 4, none⟩ (.int .i64 v)).heap[i]? = wc.heap[i]? := fun i hi => by rw [Below.heap_setCell _ _ _ _ hi, Below.heap_setCell _ _ _ _ hi]
        have hbx : b1 ≠ x + 1 := fun e => absurd (ne_typed HA0.out.at_.sb (by rw [e]; exact HR0.out)) (by decide)
        have HW1 : Hid (WAt ((wc.setCell ⟨b1, 3, none⟩ (.int .i64 t)).setCell ⟨b1, 4, none⟩ (.int .i64 v)) S bw b1 { g with t := t, v := v }) := Lib.hid (HA0.out.at_.reseat (chg1 (chg1 Chg.refl _) _) (by rw [block_setCell (block_setCell HA0.out.at_.sb _) _]; rfl) (HA0.out.at_.dl.keep (fun i hi => hot1 i (fun e => HA0.out.at_.st i hi (e ▸ .inr (.inl rfl))))) HA0.out.at_.dn HA0.out.at_.dc)
        have HR1 := Lib.hid ((hot1 _ (fun e => hbx e.symm)).trans HR0.out)
        have HC1 : Hid (Chg (g.mut bw b1) w ((wc.setCell ⟨b1, 3, none⟩ (.int .i64 t)).setCell ⟨b1, 4, none⟩ (.int .i64 v))) := Lib.hid (((Chg.ofBelow HB0.out).setCell (p := ⟨b1, 3, none⟩) (.inl (.inr (.inl rfl))) _).setCell (p := ⟨b1, 4, none⟩) (.inl (.inr (.inl rfl))) _)
        have hE1 : EntsS ((wc.setCell ⟨b1, 3, none⟩ (.int .i64 t)).setCell ⟨b1, 4, none⟩ (.int .i64 v)) SE A qs := (H3.out.keep (fun i hi => HB0.out.block i (H4.out i hi).1)).keep (fun i hi => hot1 i (fun e => (H4.out i hi).2 (e ▸ .inr (.inl rfl))))
        have HE1 := Lib.hid hE1
        have hsz1 : ((wc.setCell ⟨b1, 3, none⟩ (.int .i64 t)).setCell ⟨b1, 4, none⟩ (.int .i64 v)).heap.size = wc.heap.size := by simp only [World.setCell, Array.size_modify]
        clear d3 d4 d5 hfb hlb r0 r1 r3 hlr hot1 hE1
        generalize (wc.setCell ⟨b1, 3, none⟩ (.int .i64 t)).setCell ⟨b1, 4, none⟩ (.int .i64 v) = W1 at HW1 HR1 HC1 HE1 hsz1 ⊢
        have d5 : W1.cell? ⟨b1, 5, none⟩ = some (.int .i64 0) := sc5 HW1.out.sb
        have d7 : W1.cell? ⟨b1, 7, none⟩ = some (.slice g.dA g.dl.length g.dc) := by have e : g.dn = g.dl.length := HW1.out.dn; rw [← e]; exact cell_block HW1.out.sb 7 _ rfl
        have hlb : b1 < W1.heap.size := block_lt HW1.out.sb
        have r3 : W1.cell? ⟨x + 1, 3, none⟩ = some (.int .i64 ((g.dl.length : Int) + 1)) := cell_block HR1.out 3 _ rfl
        have hlr : x + 1 < W1.heap.size := block_lt HR1.out
        have q3 : IntKind.i64.wrap ((g.dl.length : Int) + 1 - 1) = (g.dl.length : Int) := by rw [IntWalk.i64_in _ (by omega)]; omega
        have q4 : IntKind.i64.wrap ((g.dl.length : Int) + 1) = (g.dl.length : Int) + 1 := by rw [IntWalk.i64_in _ (by omega)]
        have q5 : ¬ ((g.dl.length : Int) < 0) := by omega
        go_quiet (fail)
        go_upto_region 18 with (fail)
        generalize hW2 : W1.drewN _ = W2
        have HW2 : Hid (WAt W2 S bw b1 { g with t := t, v := v }) := Lib.hid (by rw [← hW2]; exact HW1.out.drewN _)
        have HR2 : Hid (W2.heap[x + 1]? = some (.cells #[.int .i64 t, .int .i64 v, .bool true, .int .i64 ((g.dl.length : Int) + 1), .slice A qs.length kc, .slice none 0 0, .int .i64 cm, .slice none 0 0, .int .i64 ro, .int .i64 le, .int .i64 fi, .int .i64 la] 80 (0, 0))) := Lib.hid (by rw [← hW2]; exact HR1.out)
        have HC2 : Hid (Chg (g.mut bw b1) w W2) := Lib.hid (by rw [← hW2]; exact HC1.out.drewN _)
        have HE2 : Hid (EntsS W2 SE A qs) := Lib.hid (by rw [← hW2]; exact HE1.out.keep (fun _ _ => rfl))
        have HS2 : Hid (w.heap.size ≤ W2.heap.size) := Lib.hid (by rw [← hW2]; show _ ≤ W1.heap.size; rw [hsz1]; exact HB0.out.size)
        clear d5 d7 hlb r3 hlr HW1 HR1 HC1 HE1 hsz1 hW2 HA0 HE0 HR0
        have SS : ∀ W, Below W2.heap.size W2 W → W.cell? ⟨b1, 7, none⟩ = some (.slice g.dA g.dl.length g.dc) ∧ W.cell? ⟨x + 1, 4, none⟩ = some (.slice A qs.length kc) := fun W hW => ⟨by have e : g.dn = g.dl.length := HW2.out.dn; rw [← e]; exact cell_block (HW2.out.below hW).sb 7 _ rfl, cell_block ((hW.block _ (block_lt HR2.out)).trans HR2.out) 4 _ rfl⟩
        have HSS := Lib.hid SS
        clear SS
        have HL1 : Hid (∀ W, Below W2.heap.size W2 W → Calls Tryz.prog 46 #[.slice g.dA g.dl.length g.dc] W fun e w' => ∃ v qs, e = .returned v ∧ OEnts w' W.heap.size v qs ∧ qs.map con = g.dl.map con ∧ Below W.heap.size W w') := Lib.hid (fun W hW => copyLog_any _ _ _ _ W ((HW2.out.below hW).dl.ents (HW2.out.below hW).bd) rfl (by omega))
        have HL2 : Hid (∀ W, Below W2.heap.size W2 W → Calls Tryz.prog 46 #[.slice A qs.length kc] W fun e w' => ∃ v qs', e = .returned v ∧ OEnts w' W.heap.size v qs' ∧ qs'.map con = qs.map con ∧ Below W.heap.size W w') := Lib.hid (fun W hW => copyLog_any _ _ _ _ W ((HE2.out.keep (fun i hi => hW.block i (by have := (H4.out i hi).1; have := HS2.out; omega))).ents (fun i hi => by have := (H4.out i hi).1; have := HS2.out; have := hW.size; omega)) rfl (by omega))
        have hlb : b1 < W2.heap.size := block_lt HW2.out.sb
        have hdc : g.dl.length ≤ g.dc := by have e : g.dn = g.dl.length := HW2.out.dn; rw [← e]; exact HW2.out.dc
        have hlr : x + 1 < W2.heap.size := block_lt HR2.out
        refine wp_region_held_drew (S := fun W => W.cell? ⟨x + 1, 4, none⟩ = some (.slice A qs.length kc)) (by kernel_rfl) (HSS.out _ (Below.refl _ _).drew).2 (fun hHeld => ?_)
        refine wpAnyH_take (i := 0) (v := .pointer (some ⟨b1, 0, none⟩)) rfl (by kernel_rfl) (by kernel_rfl) (by kernel_rfl) (fun _ _ _ h => h) (Or.inl ⟨by rfl, ?_⟩) (by assumption) ?_
        · intro w hSw; go_simp
        try simp only [Act.put, List.getElem_toArray, List.getElem_cons_zero]
        try simp only [List.setIfInBounds_toArray, List.set_cons_zero, List.set_cons_succ]
        refine wpAnyH_take (i := 1) (v := .pointer (some ⟨b1, 0, none⟩)) rfl (by kernel_rfl) (by kernel_rfl) (by kernel_rfl) (fun _ _ _ h => h) (Or.inl ⟨by rfl, ?_⟩) (by assumption) ?_
        · intro w hSw; go_simp
        try simp only [Act.put, List.getElem_toArray, List.getElem_cons_succ, List.getElem_cons_zero]
        try simp only [List.setIfInBounds_toArray, List.set_cons_zero, List.set_cons_succ]
        refine wpAnyH_take (i := 2) (v := .pointer (some ⟨b1, 0, none⟩)) rfl (by kernel_rfl) (by kernel_rfl) (by kernel_rfl) (fun _ _ _ h => h) (Or.inl ⟨by rfl, ?_⟩) (by assumption) ?_
        · intro w hSw; go_simp
        try simp only [Act.put, List.getElem_toArray, List.getElem_cons_succ, List.getElem_cons_zero]
        try simp only [List.setIfInBounds_toArray, List.set_cons_zero, List.set_cons_succ]
        refine wpAnyH_take (i := 3) (v := .pointer (some ⟨b1, 3, none⟩)) rfl (by kernel_rfl) (by kernel_rfl) (by kernel_rfl) (fun _ _ _ h => h) (Or.inl ⟨by rfl, ?_⟩) (by assumption) ?_
        · intro w hSw; go_simp
        try simp only [Act.put, List.getElem_toArray, List.getElem_cons_succ, List.getElem_cons_zero]
        try simp only [List.setIfInBounds_toArray, List.set_cons_zero, List.set_cons_succ]
        refine wpAnyH_take (i := 4) (v := .pointer (some ⟨b1, 7, none⟩)) rfl (by kernel_rfl) (by kernel_rfl) (by kernel_rfl) (fun _ _ _ h => h) (Or.inl ⟨by rfl, ?_⟩) (by assumption) ?_
        · intro w hSw; go_simp
        try simp only [Act.put, List.getElem_toArray, List.getElem_cons_succ, List.getElem_cons_zero]
        try simp only [List.setIfInBounds_toArray, List.set_cons_zero, List.set_cons_succ]
        refine wpAnyH_take (i := 6) (v := .int .i64 (g.dl.length : Int)) rfl (by kernel_rfl) (by kernel_rfl) (by kernel_rfl) (fun _ _ _ h => h) (Or.inl ⟨by rfl, ?_⟩) (by assumption) ?_
        · intro w hSw; go_simp
        try simp only [Act.put, List.getElem_toArray, List.getElem_cons_succ, List.getElem_cons_zero]
        try simp only [List.setIfInBounds_toArray, List.set_cons_zero, List.set_cons_succ]
        refine wpAnyH_take (i := 9) (v := .pointer (some ⟨x + 1, 4, none⟩)) rfl (by kernel_rfl) (by kernel_rfl) (by kernel_rfl) (fun _ _ _ h => h) (Or.inl ⟨by rfl, ?_⟩) (by assumption) ?_
        · intro w hSw; go_simp
        try simp only [Act.put, List.getElem_toArray, List.getElem_cons_succ, List.getElem_cons_zero]
        try simp only [List.setIfInBounds_toArray, List.set_cons_zero, List.set_cons_succ]
        refine wpAnyH_take (i := 10) (v := .slice A qs.length kc) rfl (by kernel_rfl) (by kernel_rfl) (by kernel_rfl) (fun _ _ _ h => h) (Or.inl ⟨by rfl, ?_⟩) (by assumption) ?_
        · intro w hSw; go_simp
        try simp only [Act.put, List.getElem_toArray, List.getElem_cons_succ, List.getElem_cons_zero]
        try simp only [List.setIfInBounds_toArray, List.set_cons_zero, List.set_cons_succ]
        have d7 := (HSS.out _ (Below.refl _ _).drew).1
        have hbx2 : x + 1 ≠ b1 := fun e => absurd (ne_typed HR2.out (by rw [e]; exact HW2.out.sb)) (by decide)
        refine wpAnyH_ready (rs := [5]) (by kernel_rfl) (by simp) ?_
        refine AllReadyH.cons rfl (fun K hK => ?_) AllReadyH.nil
        go_simp
        refine hK.out _ _ ?_ (fun hHeld => ?_)
        · exact (HSS.out _ (Below.refl _ _).drew).2
        clear hK K
        try simp only [Act.put, List.getElem_toArray, List.getElem_cons_succ, List.getElem_cons_zero]
        try simp only [Act.put, List.setIfInBounds_toArray, List.set_cons_zero, List.set_cons_succ]
        refine wpAnyH_take (i := 7) (v := .slice g.dA g.dl.length g.dc) rfl (by kernel_rfl) (by kernel_rfl) (by kernel_rfl) (fun _ _ _ h => h) (Or.inl ⟨by rfl, ?_⟩) (by assumption) ?_
        · intro w hSw; go_simp
        try simp only [Act.put, List.getElem_toArray, List.getElem_cons_succ, List.getElem_cons_zero]
        try simp only [List.setIfInBounds_toArray, List.set_cons_zero, List.set_cons_succ]
        refine wpAnyH_ready (rs := [8]) (by kernel_rfl) (by simp) ?_
        refine AllReadyH.cons rfl (fun K hK => ?_) AllReadyH.nil
        go_simp
        refine (HL1.out _ (Below.refl _ _).drew).mono ?_
        rintro e w5 ⟨v1, qs1, rfl, hO1, hq1, hb5⟩
        have hb5c' := (show Below W2.heap.size W2 w5 from ⟨hb5.os, hb5.tape, hb5.output, hb5.size, hb5.block⟩)
        go_wp2_with fail
        refine hK.out _ _ ?_ (fun hHeld => ?_)
        · exact (HSS.out _ hb5c').2
        clear hK K
        try simp only [Act.put, List.getElem_toArray, List.getElem_cons_succ, List.getElem_cons_zero]
        try simp only [Act.put, List.setIfInBounds_toArray, List.set_cons_zero, List.set_cons_succ]
        refine wpAnyH_ready (rs := [11]) (by kernel_rfl) (by simp) ?_
        refine AllReadyH.cons rfl (fun K hK => ?_) AllReadyH.nil
        go_simp
        refine (HL2.out _ hb5c').mono ?_
        rintro e w6 ⟨v2, qs2, rfl, hO2, hq2, hb6⟩
        have hb6c' := hb5c'.trans (hb6.mono hb5c'.size)
        go_wp2_with fail
        refine hK.out _ _ ?_ (fun hHeld => ?_)
        · exact (HSS.out _ hb6c').2
        clear hK K
        try simp only [Act.put, List.getElem_toArray, List.getElem_cons_succ, List.getElem_cons_zero]
        try simp only [Act.put, List.setIfInBounds_toArray, List.set_cons_zero, List.set_cons_succ]
        have hO1' := (hO1.weaken (base' := W2.heap.size) (Nat.le_refl _)).below hb6 (Nat.le_refl _)
        have hO2' := hO2.weaken (base' := W2.heap.size) hb5c'.size
        obtain ⟨A2, k2, rfl⟩ := hO2'.own.form
        have hlq1 : qs1.length = g.dl.length := by have := congrArg List.length hq1; simpa using this
        have hlq2 : qs2.length = qs.length := by have := congrArg List.length hq2; simpa using this
        obtain ⟨v7, w7, hrun, hO7, hb7⟩ := app_ents (ty := 46) hO1' hO2' hb6c'.size (by omega)
        have hb7c : Below W2.heap.size W2 w7 := hb6c'.trans hb7
        refine wpAnyH_ready (rs := [12]) (by kernel_rfl) (by simp) ?_
        refine AllReadyH.cons rfl (fun K hK => ?_) AllReadyH.nil
        refine step_hrun (by rfl) _ _ 46 (by rfl) _ _ v7 w7 (by rfl) (by rfl) hrun ?_
        refine hK.out _ _ ?_ (fun hHeld => ?_)
        · exact (HSS.out _ hb7c).2
        clear hK K
        try simp only [Act.put, List.getElem_toArray, List.getElem_cons_succ, List.getElem_cons_zero]
        try simp only [List.setIfInBounds_toArray, List.set_cons_zero, List.set_cons_succ]
        obtain ⟨A7, k7, rfl⟩ := hO7.own.form
        have hsb7 := (HW2.out.below hb7c).sb
        have hf7 := frozen_block hsb7
        have hlb7 : b1 < w7.heap.size := block_lt hsb7
        have d77 := (HSS.out _ hb7c).1
        refine wpAnyH_take (i := 13) (v := .pointer (some ⟨b1, 0, none⟩)) rfl (by kernel_rfl) (by kernel_rfl) (by kernel_rfl) (fun _ _ _ h => h) (Or.inl ⟨by rfl, ?_⟩) (by assumption) ?_
        · intro w hSw; go_simp
        try simp only [Act.put, List.getElem_toArray, List.getElem_cons_succ, List.getElem_cons_zero]
        try simp only [List.setIfInBounds_toArray, List.set_cons_zero, List.set_cons_succ]
        refine wpAnyH_take (i := 14) (v := .pointer (some ⟨b1, 3, none⟩)) rfl (by kernel_rfl) (by kernel_rfl) (by kernel_rfl) (fun _ _ _ h => h) (Or.inl ⟨by rfl, ?_⟩) (by assumption) ?_
        · intro w hSw; go_simp
        try simp only [Act.put, List.getElem_toArray, List.getElem_cons_succ, List.getElem_cons_zero]
        try simp only [List.setIfInBounds_toArray, List.set_cons_zero, List.set_cons_succ]
        refine wpAnyH_take (i := 15) (v := .pointer (some ⟨b1, 7, none⟩)) rfl (by kernel_rfl) (by kernel_rfl) (by kernel_rfl) (fun _ _ _ h => h) (Or.inl ⟨by rfl, ?_⟩) (by assumption) ?_
        · intro w hSw; go_simp
        try simp only [Act.put, List.getElem_toArray, List.getElem_cons_succ, List.getElem_cons_zero]
        try simp only [List.setIfInBounds_toArray, List.set_cons_zero, List.set_cons_succ]
        refine wpAnyH_ready (rs := [16]) (by kernel_rfl) (by simp) ?_
        refine AllReadyH.cons rfl (fun K hK => ?_) AllReadyH.nil
        go_simp
        refine hK.out _ _ ?_ (fun hHeld => ?_)
        · exact (cell_heap' (Below.heap_setCell _ _ _ _ hbx2) _).trans (HSS.out _ hb7c).2
        clear hK K
        try simp only [Act.put, List.getElem_toArray, List.getElem_cons_succ, List.getElem_cons_zero]
        try simp only [Act.put, List.setIfInBounds_toArray, List.set_cons_zero, List.set_cons_succ]
        refine wpAnyH_done (by kernel_rfl) ?_ _
        try simp only [Act.put, List.getElem_toArray, List.getElem_cons_succ, List.getElem_cons_zero]
        try simp only [Act.put, List.setIfInBounds_toArray, List.set_cons_zero, List.set_cons_succ]
        go_wp2_with fail
        go_meet
        have hO7' : OEnts w7 W2.heap.size (.slice A7 (g.dl.length + qs.length) k7) (qs1 ++ qs2) := by
          have := hO7
          simp only [List.length_map, List.length_append, hlq1, hlq2] at this
          exact this
        exact Lib.hid (done_log HW2.out HR2.out HC2.out HS2.out hb7c hO7' (by rw [List.map_append, hq1, hq2]))
    case rest =>
      obtain ⟨S2, A2, n2, c2, dl2, hW, hdl, hR, hC, hS, hS'⟩ := hcut.out
      have HW := Lib.hid hW
      have HDL := Lib.hid hdl
      have HR := Lib.hid hR
      have HC := Lib.hid hC
      have HS := Lib.hid (And.intro hS hS')
      clear hcut hW hdl hR hC hS hS'
      have r5 : wc.cell? ⟨x + 1, 5, none⟩ = some (.slice none 0 0) := cell_block HR.out 5 _ rfl
      have c7 : wc.cell? ⟨bw, 7, none⟩ = some (.slice none 0 0) := wc7 HW.out.wb
      have hlw : bw < wc.heap.size := block_lt HW.out.wb
      have hlb : b1 < wc.heap.size := block_lt HW.out.sb
      have hlr : x + 1 < wc.heap.size := block_lt HR.out
      have hdll : dl2.length = g.dl.length + qs.length := by have := congrArg List.length HDL.out; simpa using this
      have hle0 : g.t ≤ t := by rcases hAB with h | h; (have := h.1; omega); (have := h.1; omega)
      have HTL := Lib.hid (told_yes bw b1 h _ S2 g.t t v fr cm ro le fi la wrt A qs.length kc wc HW.out (by show KInv g.known g.tm h (dl2.map con) g.t; rw [HDL.out]; exact HA.out.kinv.app) HA.out.high hle0 H1.out rfl hv HA.out.vo HA.out.le H2.out HA.out.cm0 HA.out.cmh hc1 (by show cm ≤ (dl2.length : Int); rw [hdll]; push_cast; omega) (by show dl2.length ≤ 100000; omega) hti)
      clear hAB hdll
      go_wp2_with (fail)
      go_loop [12] (fun i => i = .int .i64 0) (fun _ => 0)
      case atStart => rfl
      case round =>
        subst hrel
        go_wp2_with (fail)
        go_loop [191] (fun _ => True) (fun _ => 0)
        case atStart => trivial
        case round =>
          obtain ⟨r0, r1, r2, r3, r4, r5', r6, r7, r8, r9, r10, r11⟩ := cells12' HR.out
          go_wp2_with (fail)
          refine HTL.out.mono ?_
          rintro e w5 ⟨rfl, g', h', hT⟩
          have HT := Lib.hid hT
          have hxm : ¬ g.mut bw b1 (x + 1) := fun hm => by
            rcases hm with e | e | e | e | e | e
            · exact absurd (ne_typed HR.out (by rw [e]; exact HW.out.wb)) (by decide)
            · exact absurd (ne_typed HR.out (by rw [e]; exact HW.out.sb)) (by decide)
            · exact HW.out.led.ne HR.out e.symm
            · exact HW.out.voted.ne HR.out e.symm
            · exact HW.out.known.ne HR.out e.symm
            · exact HW.out.tm.ne HR.out e.symm
          have hR5 := (hT.chg.keep (block_lt HR.out) (fun hm => hxm hm)).trans HR.out
          clear hT r0 r1 r2 r3 r4 r5' r6 r7 r8 r9 r10 r11 hlw hlb hlr c7 r5 HTL
          have r8 : w5.cell? ⟨x + 1, 8, none⟩ = some (.int .i64 ro) := cell_block hR5 8 _ rfl
          have r9 : w5.cell? ⟨x + 1, 9, none⟩ = some (.int .i64 le) := cell_block hR5 9 _ rfl
          have hlr : x + 1 < w5.heap.size := block_lt hR5
          have hlb : b1 < w5.heap.size := block_lt HT.out.at_.sb
          have hfb := frozen_block HT.out.at_.sb
          have d10 : w5.cell? ⟨b1, 10, none⟩ = some (.int .i64 g'.ro) := cell_block HT.out.at_.sb 10 _ rfl
          have d11 : w5.cell? ⟨b1, 11, none⟩ = some (.int .i64 g'.le) := cell_block HT.out.at_.sb 11 _ rfl
          clear hR5
          go_wp2_with (fail)
          go_ret
          have hA := HT.out.at_
          have hot : ∀ i, i ≠ b1 → ((w5.setCell ⟨b1, 10, none⟩ (.int .i64 ro)).setCell ⟨b1, 11, none⟩ (.int .i64 le)).heap[i]? = w5.heap[i]? := fun i hi => by rw [Below.heap_setCell _ _ _ _ hi, Below.heap_setCell _ _ _ _ hi]
          have hAf := hA.reseat (bn := g'.bn) (t := g'.t) (v := g'.v) (cm := g'.cm) (most := g'.most) (ro := ro) (le := le) (dA := g'.dA) (dn := g'.dn) (dc := g'.dc) (dl := g'.dl) (chg1 (o := 11) (chg1 (o := 10) Chg.refl (.int .i64 ro)) (.int .i64 le)) (by rw [block_setCell (block_setCell hA.sb _) _]; rfl) (hA.dl.keep (fun i hi => hot i (fun e => hA.st i hi (e ▸ .inr (.inl rfl))))) hA.dn hA.dc
          have he := HT.out.eq
          have hd : g'.dl = dl2 := by rw [he]
          refine ⟨rfl, S2, h', _, ⟨⟨hAf, ?_, HT.out.hh, ?_, ?_, HT.out.vo, HT.out.le⟩, ⟨by rw [he], by rw [he], by rw [he], by rw [he], by rw [he], by rw [he], by rw [he], by rw [he]⟩, by rw [he], by rw [he], by rw [he], rfl, rfl, ?_, ?_, HS.out.1, HS.out.2⟩⟩
          · show KInv g'.known g'.tm h' (g'.dl.map con) g'.t
            have e1 : g'.t = t := by rw [he]
            rw [hd, e1]; exact HT.out.kinv
          · show 0 ≤ g'.cm
            have e1 : g'.cm = cm := by rw [he]
            rw [e1]; have := HA.out.cm0; omega
          · show g'.cm ≤ h'
            have e1 : g'.cm = cm := by rw [he]
            rw [e1]; exact HT.out.cmh
          · show g'.dl.map con = _
            rw [hd]; exact HDL.out
          · exact ((HC.out.trans HT.out.chg).setCell (p := ⟨b1, 10, none⟩) (.inl (.inr (.inl rfl))) _).setCell (p := ⟨b1, 11, none⟩) (.inl (.inr (.inl rfl))) _
end Go.Proofs.YtocogcgnahbpkaaGreat
