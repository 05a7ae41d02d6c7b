/-
  World.told where it says yes.
-/
import Derived.Test.YtocogcgnahbpkaaGreatW2
namespace Go.Proofs.YtocogcgnahbpkaaGreat
open Go.RowKit

section
variable {α β : Type} [DecidableEq α]
theorem find_map_put (l : List (α × β)) (x y : α) (v : β) : (l.map (fun p => if p.1 = x then (x, v) else p)).find? (fun p => p.1 = y) = if y = x then (l.find? fun p => p.1 = x).map (fun _ => (x, v)) else l.find? fun p => p.1 = y := by
  induction l with
  | nil => simp
  | cons a l ih =>
    rw [List.map_cons, List.find?_cons, ih, List.find?_cons, List.find?_cons]
    by_cases hyx : y = x
    · subst hyx
      by_cases ha : a.1 = y <;> simp [ha]
    · by_cases ha : a.1 = x
      · have h1 : ¬ x = y := fun e => hyx e.symm
        have h2 : ¬ a.1 = y := fun e => hyx (e.symm.trans ha)
        simp [ha, h1, hyx]
      · simp [ha, hyx]
theorem kget_kput (l : List (α × β)) (x y : α) (v : β) : kget (kput l x v) y = if y = x then some v else kget l y := by
  unfold kput
  by_cases hx : x ∈ l.map (·.1)
  · rw [if_pos hx]
    unfold kget
    rw [find_map_put]
    by_cases hyx : y = x
    · subst hyx
      obtain ⟨p, hp, hpx⟩ := List.mem_map.1 hx
      have : (l.find? fun p => p.1 = y).isSome = true := List.find?_isSome.2 ⟨p, hp, by simpa using hpx⟩
      obtain ⟨q, hq⟩ := Option.isSome_iff_exists.1 this
      simp [hq]
    · simp [hyx]
  · rw [if_neg hx]
    unfold kget
    rw [List.find?_append]
    by_cases hyx : y = x
    · subst hyx
      have : l.find? (fun p => p.1 = y) = none := by
        rw [List.find?_eq_none]
        intro p hp
        simp only [decide_eq_true_eq]
        exact fun e => hx (e ▸ List.mem_map_of_mem hp)
      simp [this]
    · have h1 : ¬ x = y := fun e => hyx e.symm
      simp [hyx, h1]
theorem kput_all {P : α × β → Prop} {l : List (α × β)} {x : α} {v : β} (h : ∀ p ∈ l, P p) (hx : P (x, v)) : ∀ p ∈ kput l x v, P p := by
  unfold kput
  split
  · intro p hp
    obtain ⟨q, hq, rfl⟩ := List.mem_map.1 hp
    split
    · exact hx
    · exact h q hq
  · intro p hp
    rcases List.mem_append.1 hp with hp | hp
    · exact h p hp
    · rw [List.mem_singleton] at hp; subst hp; exact hx
end

theorem KInv.mono {kn : List (Int × (LE × List Int))} {tm : List (Int × Int)} {h : Nat} {lg : List E} {t t' : Int} (k : KInv kn tm h lg t) (ht : t ≤ t') : KInv kn tm h lg t' :=
  ⟨k.h1, k.k, k.n, fun i hi => by obtain ⟨τ, h1, h2⟩ := k.t i hi; exact ⟨τ, h1, by omega⟩⟩
theorem KInv.old {kn : List (Int × (LE × List Int))} {tm : List (Int × Int)} {h j : Nat} {lg : List E} {t : Int} {p : LE × List Int} (k : KInv kn tm h lg t) (hj : j < h) (hp : lg[j]? = some (con p)) : KInv (kput kn ((j : Int) + 1) p) tm h lg t := by
  refine ⟨k.h1, fun i hi => ?_, fun i hi => ?_, k.t⟩
  · rw [kget_kput]
    by_cases e : (i : Int) + 1 = (j : Int) + 1
    · have : i = j := by omega
      subst this
      exact ⟨p, by rw [if_pos rfl], hp⟩
    · rw [if_neg e]; exact k.k i hi
  · rw [kget_kput, if_neg (by omega)]; exact k.n i hi
theorem KInv.new {kn : List (Int × (LE × List Int))} {tm : List (Int × Int)} {h : Nat} {lg : List E} {t : Int} {p : LE × List Int} (k : KInv kn tm h lg t) (hp : lg[h]? = some (con p)) : KInv (kput kn ((h : Int) + 1) p) (kput tm ((h : Int) + 1) t) (h + 1) lg t := by
  refine ⟨(List.getElem?_eq_some_iff.1 hp).1, fun i hi => ?_, fun i hi => ?_, fun i hi => ?_⟩
  · rw [kget_kput]
    by_cases e : (i : Int) + 1 = (h : Int) + 1
    · have : i = h := by omega
      subst this
      exact ⟨p, by rw [if_pos rfl], hp⟩
    · rw [if_neg e]; exact k.k i (by omega)
  · rw [kget_kput, if_neg (by push_cast at hi; omega)]; exact k.n i (by push_cast at hi; omega)
  · rw [kget_kput]
    by_cases e : (i : Int) + 1 = (h : Int) + 1
    · exact ⟨t, by rw [if_pos e], by omega⟩
    · rw [if_neg e]; exact k.t i (by omega)

theorem cells12' {w : World} {b : Nat} {a0 a1 a2 a3 a4 a5 a6 a7 a8 a9 a10 a11 : Value} {t : TypeId} (h : w.heap[b]? = some (.cells #[a0, a1, a2, a3, a4, a5, a6, a7, a8, a9, a10, a11] t (0, 0))) :
    w.cell? ⟨b, 0, none⟩ = some a0 ∧ w.cell? ⟨b, 1, none⟩ = some a1 ∧ w.cell? ⟨b, 2, none⟩ = some a2 ∧ w.cell? ⟨b, 3, none⟩ = some a3 ∧ w.cell? ⟨b, 4, none⟩ = some a4 ∧ w.cell? ⟨b, 5, none⟩ = some a5 ∧ w.cell? ⟨b, 6, none⟩ = some a6 ∧ w.cell? ⟨b, 7, none⟩ = some a7 ∧ w.cell? ⟨b, 8, none⟩ = some a8 ∧ w.cell? ⟨b, 9, none⟩ = some a9 ∧ w.cell? ⟨b, 10, none⟩ = some a10 ∧ w.cell? ⟨b, 11, none⟩ = some a11 :=
  ⟨cell_block h 0 _ rfl, cell_block h 1 _ rfl, cell_block h 2 _ rfl, cell_block h 3 _ rfl, cell_block h 4 _ rfl, cell_block h 5 _ rfl, cell_block h 6 _ rfl, cell_block h 7 _ rfl, cell_block h 8 _ rfl, cell_block h 9 _ rfl, cell_block h 10 _ rfl, cell_block h 11 _ rfl⟩

structure ToldTo (w w' : World) (S : Nat → Prop) (bw b1 : Nat) (g : WG) (cm t : Int) (g' : WG) (h' : Nat) : Prop where
  at_ : WAt w' S bw b1 g'
  eq : g' = { g with led := g'.led, voted := g'.voted, known := g'.known, tm := g'.tm, high := g'.high, cm := cm, most := g'.most }
  kinv : KInv g'.known g'.tm h' (g.dl.map con) t
  hh : g'.high = h'
  cmh : cm ≤ h'
  vo : ∀ p ∈ g'.voted, p.2 = 1
  le : ∀ p ∈ g'.led, p.2 = 1
  chg : Chg (g.mut bw b1) w w'

structure TI (w wx : World) (S : Nat → Prop) (bw b1 x : Nat) (r : Array Value) (g g2 : WG) : Prop where
  at_ : WAt wx S bw b1 g2
  r : wx.heap[x]? = some (.cells r 80 (0, 0))
  chg : Chg (g.mut bw b1) w wx
  x : w.heap.size ≤ x
theorem TI.drewN {w wx : World} {S : Nat → Prop} {bw b1 x : Nat} {r : Array Value} {g g2 : WG} (h : TI w wx S bw b1 x r g g2) (n : Nat) : TI w (wx.drewN n) S bw b1 x r g g2 := ⟨h.at_.drewN n, h.r, h.chg.drewN n, h.x⟩
theorem TI.below {w wx wy : World} {S : Nat → Prop} {bw b1 x : Nat} {r : Array Value} {g g2 : WG} (h : TI w wx S bw b1 x r g g2) (hb : Below wx.heap.size wx wy) : TI w wy S bw b1 x r g g2 := ⟨h.at_.below hb, (hb.block x (block_lt h.r)).trans h.r, h.chg.below hb, h.x⟩
theorem grown_chg {w w' : World} {b : Nat} (h : w.grownBy w' (some b)) : Chg (· = b) w w' := ⟨h.os, h.tape, h.output, h.size, fun i hi hn => h.block i hi (fun e => hn (by injection e))⟩

section
variable {w wx wy : World} {S : Nat → Prop} {bw b1 x : Nat} {r : Array Value} {g g2 : WG}
theorem TI.step (h : TI w wx S bw b1 x r g g2) {g3 : WG} {c : Nat} (ha : WAt wy S bw b1 g3) (hc : Chg (· = c) wx wy) (hm : g.mut bw b1 c) (hne : c ≠ x) : TI w wy S bw b1 x r g g3 :=
  ⟨ha, (hc.keep (block_lt h.r) (fun e => hne e.symm)).trans h.r, h.chg.trans2 hc (fun i hi => by subst hi; exact .inl hm), h.x⟩
theorem TI.revoted (h : TI w wx S bw b1 x r g g2) (hm : g2.mV = g.mV) (hg : wx.grownBy wy (some g2.mV)) {l : List ((Int × Int) × Int)} (hl : MapG Tryz.prog 150 encV (Value.int .i64) wy g2.mV l) : TI w wy S bw b1 x r g { g2 with voted := l } :=
  h.step (h.at_.revoted (grown_chg hg) hl) (grown_chg hg) (.inr (.inr (.inr (.inl hm)))) (h.at_.voted.ne h.r)
theorem TI.reled (h : TI w wx S bw b1 x r g g2) (hm : g2.mL = g.mL) (hg : wx.grownBy wy (some g2.mL)) {l : List (Int × Int)} (hl : MI wy g2.mL l) : TI w wy S bw b1 x r g { g2 with led := l } :=
  h.step (h.at_.reled (grown_chg hg) hl) (grown_chg hg) (.inr (.inr (.inl hm))) (h.at_.led.ne h.r)
theorem TI.reknown (h : TI w wx S bw b1 x r g g2) (hm : g2.mK = g.mK) (hg : wx.grownBy wy (some g2.mK)) {l : List (Int × (LE × List Int))} (hl : MapG Tryz.prog 3 (Value.int .i64) encK wy g2.mK l)
    (hkb : ∀ p ∈ l, RowS encB 1 wx S p.2.1.A p.2.2 ∧ p.2.1.n = p.2.2.length ∧ p.2.2.length ≤ 140737488351232) : TI w wy S bw b1 x r g { g2 with known := l } :=
  h.step (h.at_.reknown (grown_chg hg) hl hkb) (grown_chg hg) (.inr (.inr (.inr (.inr (.inl hm))))) (h.at_.known.ne h.r)
theorem TI.retm (h : TI w wx S bw b1 x r g g2) (hm : g2.mT = g.mT) (hg : wx.grownBy wy (some g2.mT)) {l : List (Int × Int)} (hl : MI wy g2.mT l) : TI w wy S bw b1 x r g { g2 with tm := l } :=
  h.step (h.at_.retm (grown_chg hg) hl) (grown_chg hg) (.inr (.inr (.inr (.inr (.inr hm))))) (h.at_.tm.ne h.r)
theorem TI.bx (h : TI w wx S bw b1 x r g g2) : bw ≠ x ∧ b1 ≠ x :=
  ⟨fun e => absurd (ne_typed h.at_.wb (by rw [e]; exact h.r)) (by decide), fun e => absurd (ne_typed h.at_.sb (by rw [e]; exact h.r)) (by decide)⟩
theorem TI.rehigh (h : TI w wx S bw b1 x r g g2) (z : Int) : TI w (wx.setCell ⟨bw, 12, none⟩ (.int .i64 z)) S bw b1 x r g { g2 with high := z } :=
  h.step (h.at_.rehigh (chg1 Chg.refl _) (by rw [block_setCell h.at_.wb]; rfl)) (chg1 Chg.refl _) (.inl rfl) h.bx.1
theorem TI.recm (h : TI w wx S bw b1 x r g g2) (z : Int) : TI w (wx.setCell ⟨b1, 8, none⟩ (.int .i64 z)) S bw b1 x r g { g2 with cm := z } :=
  h.step (h.at_.reseat (chg1 Chg.refl _) (by rw [block_setCell h.at_.sb]; rfl) (h.at_.dl.keep (fun i hi => Below.heap_setCell _ _ _ _ (fun e => h.at_.st i hi (e ▸ .inr (.inl rfl))))) h.at_.dn h.at_.dc) (chg1 Chg.refl _) (.inr (.inl rfl)) h.bx.2
theorem TI.remost (h : TI w wx S bw b1 x r g g2) (z : Int) : TI w (wx.setCell ⟨b1, 9, none⟩ (.int .i64 z)) S bw b1 x r g { g2 with most := z } :=
  h.step (h.at_.reseat (chg1 Chg.refl _) (by rw [block_setCell h.at_.sb]; rfl) (h.at_.dl.keep (fun i hi => Below.heap_setCell _ _ _ _ (fun e => h.at_.st i hi (e ▸ .inr (.inl rfl))))) h.at_.dn h.at_.dc) (chg1 Chg.refl _) (.inr (.inl rfl)) h.bx.2
end

set_option maxRecDepth 100000 in
set_option maxHeartbeats 4000000 in
theorem told_yes (bw b1 h : Nat) (g : WG) (S : Nat → Prop) (t0 t v fr cm ro le fi la : Int) (wrt : Bool) (A : Option Addr) (n kc : Nat) (w : World) (ha : WAt w S bw b1 g) (hk : KInv g.known g.tm h (g.dl.map con) t0) (hh : g.high = h) (ht0 : t0 ≤ t) (hlead : ro = 4 → g.ro ≠ 4 → t0 < t) (hgt : g.t = t)
    (hv : v = 0 ∨ v = 1) (hvo : ∀ p ∈ g.voted, p.2 = 1) (hle : ∀ p ∈ g.led, p.2 = 1) (hl4 : ro = 4 → le = 1) (hc : 0 ≤ g.cm) (hch : g.cm ≤ h) (hc1 : g.cm ≤ cm) (hc2 : cm ≤ g.dl.length) (hl : g.dl.length ≤ 100000) (hti : okI t) :
    Calls Tryz.prog 60 #[.pointer (some ⟨bw, 0, none⟩), .pointer (some ⟨b1, 0, none⟩), .agg #[.int .i64 t, .int .i64 v, .bool wrt, .int .i64 fr, .slice A n kc, .slice none 0 0, .int .i64 cm, .slice none 0 0, .int .i64 ro, .int .i64 le, .int .i64 fi, .int .i64 la]] w
      fun e w' => e = .returned (.bool true) ∧ ∃ g' h', ToldTo w w' S bw b1 g cm t g' h' := by
  have H1 := Lib.hid ht0
  have H2 := Lib.hid hlead
  have H3 := Lib.hid hgt
  have H4 := Lib.hid hvo
  have H5 := Lib.hid hle
  have H6 := Lib.hid hl4
  have HK := Lib.hid hk
  obtain ⟨c1, rfl⟩ : ∃ c1 : Nat, cm = c1 := ⟨cm.toNat, by omega⟩
  have HTI := Lib.hid (TI.mk (g := g) (r := #[.int .i64 t, .int .i64 v, .bool wrt, .int .i64 fr, .slice A n kc, .slice none 0 0, .int .i64 (c1 : Int), .slice none 0 0, .int .i64 ro, .int .i64 le, .int .i64 fi, .int .i64 la]) (ha.below (below_alloc1 w _)) (World.alloc_at w _) (Chg.ofBelow (below_alloc1 w _)) (Nat.le_refl _))
  obtain ⟨x, hx⟩ : ∃ x, x = w.heap.size := ⟨_, rfl⟩
  rw [← hx] at HTI
  clear ht0 hlead hvo hle hl4 hk ha
  go_enter Tryz.func60, Tryz.ntmps60
  go_upto_if 24 with fail
  rw [← hx]
  generalize w.alloc (.cells #[.int .i64 t, .int .i64 v, .bool wrt, .int .i64 fr, .slice A n kc, .slice none 0 0, .int .i64 (c1 : Int), .slice none 0 0, .int .i64 ro, .int .i64 le, .int .i64 fi, .int .i64 la] 80) = W0 at HTI ⊢
  have HXX := Lib.hid hx
  clear hx
  have hlx : x < W0.heap.size := block_lt HTI.out.r
  obtain ⟨r0, r1, r2, r3, r4, r5, r6, r7, r8, r9, r10, r11⟩ := cells12' HTI.out.r
  go_cut [] (fun wx => Hid (∃ vt, TI w wx S bw b1 x #[.int .i64 t, .int .i64 v, .bool wrt, .int .i64 fr, .slice A n kc, .slice none 0 0, .int .i64 (c1 : Int), .slice none 0 0, .int .i64 ro, .int .i64 le, .int .i64 fi, .int .i64 la] g { g with voted := vt } ∧ (∀ p ∈ vt, p.2 = 1)))
  case first =>
    rcases hv with rfl | rfl
    · go_wp2_with (fail)
      go_meet
      exact Lib.hid ⟨g.voted, HTI.out, H4.out⟩
    · have hlw := block_lt HTI.out.at_.wb
      have hlb := block_lt HTI.out.at_.sb
      have d0 := sc0 HTI.out.at_.sb
      have c9 := wc9 HTI.out.at_.wb
      go_upto_region 4 with (fail)
      obtain ⟨y, hy⟩ : ∃ y, y = W0.heap.size := ⟨_, rfl⟩
      rw [← hy]
      have HT1 := Lib.hid (HTI.out.below (below_alloc1 W0 (.cells #[.int .i64 1, .int .i64 t] 150)))
      have hY1 := World.alloc_at W0 (.cells #[.int .i64 1, .int .i64 t] 150)
      rw [← hy] at hY1
      have HYY := Lib.hid hy
      clear hy
      clear r0 r1 r2 r3 r4 r5 r6 r7 r8 r9 r10 r11 hlx hlw hlb d0 c9
      generalize W0.alloc (.cells #[.int .i64 1, .int .i64 t] 150) = W1 at HT1 hY1 ⊢
      have hlw := block_lt HT1.out.at_.wb
      have hly := block_lt hY1
      have hlx := block_lt HT1.out.r
      have c9 := wc9 HT1.out.at_.wb
      have y0 : W1.cell? ⟨y, 0, none⟩ = some (.int .i64 1) := cell_block hY1 0 _ rfl
      have y1 : W1.cell? ⟨y, 1, none⟩ = some (.int .i64 t) := cell_block hY1 1 _ rfl
      have r1 : W1.cell? ⟨x, 1, none⟩ = some (.int .i64 1) := cell_block HT1.out.r 1 _ rfl
      have hokv : okV (1, t) := ⟨by unfold okI; omega, hti⟩
      have lk : ∃ z fnd, (∀ j, (Instr.lookup 40 (.map (some g.mV)) (.agg #[.int .i64 1, .int .i64 t]) true).run Tryz.prog (W1.drewN j) = .ok (.tuple #[.int .i64 z, .bool fnd]) (W1.drewN j)) ∧ ((fnd = false) ∨ (fnd = true ∧ z = 1)) := by
        have := fun j => (HT1.out.at_.drewN j).voted.look_ok KV Tryz.underlying40 (1, t) hokv _ zero3
        cases hq : kget g.voted (1, t) with
        | none => rw [hq] at this; exact ⟨0, false, this, .inl rfl⟩
        | some u => rw [hq] at this; exact ⟨u, true, this, .inr ⟨rfl, H4.out _ (kget_mem hq)⟩⟩
      have HY1 := Lib.hid hY1
      obtain ⟨z, fnd, hlk, hz⟩ := lk
      clear hY1
      rcases hz with rfl | ⟨rfl, rfl⟩
      · go_quiet (fail)
        go_upto_region 7 with (fail)
        generalize hW2 : W1.drewN _ = W2
        have HT2 : Hid (TI w W2 S bw b1 x _ g g) := Lib.hid (hW2 ▸ HT1.out.drewN _)
        have hlw : bw < W2.heap.size := by rw [← hW2]; exact hlw
        have hly : y < W2.heap.size := by rw [← hW2]; exact hly
        have hlx : x < W2.heap.size := by rw [← hW2]; exact hlx
        have c9 : W2.cell? ⟨bw, 9, none⟩ = some (.map (some g.mV)) := by rw [← hW2]; exact c9
        have y0 : W2.cell? ⟨y, 0, none⟩ = some (.int .i64 1) := by rw [← hW2]; exact y0
        have y1 : W2.cell? ⟨y, 1, none⟩ = some (.int .i64 t) := by rw [← hW2]; exact y1
        have r1 : W2.cell? ⟨x, 1, none⟩ = some (.int .i64 1) := by rw [← hW2]; exact r1
        clear hlk hW2
        obtain ⟨W3, hrun, hm3, hg3, hs3⟩ := (HT2.out.at_.drewN 1).voted.put KV Tryz.underlying40 (1, t) hokv 1
        have hrun' : (Instr.mapUpdate 40 (.map (some g.mV)) (.agg #[.int .i64 1, .int .i64 t]) (.int .i64 1)).run Tryz.prog W2.drew = .ok () W3 := hrun
        go_region
        go_wp2_with (fail)
        go_meet
        exact Lib.hid ⟨_, (HT2.out.drewN 1).revoted rfl hg3 hm3, kput_all H4.out rfl⟩
      · go_quiet (fail)
        go_upto_region 7 with (fail)
        generalize hW2 : W1.drewN _ = W2
        have HT2 : Hid (TI w W2 S bw b1 x _ g g) := Lib.hid (hW2 ▸ HT1.out.drewN _)
        have hlw : bw < W2.heap.size := by rw [← hW2]; exact hlw
        have hly : y < W2.heap.size := by rw [← hW2]; exact hly
        have hlx : x < W2.heap.size := by rw [← hW2]; exact hlx
        have c9 : W2.cell? ⟨bw, 9, none⟩ = some (.map (some g.mV)) := by rw [← hW2]; exact c9
        have y0 : W2.cell? ⟨y, 0, none⟩ = some (.int .i64 1) := by rw [← hW2]; exact y0
        have y1 : W2.cell? ⟨y, 1, none⟩ = some (.int .i64 t) := by rw [← hW2]; exact y1
        have r1 : W2.cell? ⟨x, 1, none⟩ = some (.int .i64 1) := by rw [← hW2]; exact r1
        clear hlk hW2
        obtain ⟨W3, hrun, hm3, hg3, hs3⟩ := (HT2.out.at_.drewN 1).voted.put KV Tryz.underlying40 (1, t) hokv 1
        have hrun' : (Instr.mapUpdate 40 (.map (some g.mV)) (.agg #[.int .i64 1, .int .i64 t]) (.int .i64 1)).run Tryz.prog W2.drew = .ok () W3 := hrun
        go_region
        go_wp2_with (fail)
        go_meet
        exact Lib.hid ⟨_, (HT2.out.drewN 1).revoted rfl hg3 hm3, kput_all H4.out rfl⟩
  case rest =>
    obtain ⟨vt, hT, hvt⟩ := hcut.out
    have HT := Lib.hid hT
    have HVT := Lib.hid hvt
    have r8 : wc.cell? ⟨x, 8, none⟩ = some (.int .i64 ro) := cell_block hT.r 8 _ rfl
    have hlx : x < wc.heap.size := block_lt hT.r
    clear hT hvt hcut HTI r0 r1 r2 r3 r4 r5 r6 r7 r8 r9 r10 r11 hlx
    have r8 : wc.cell? ⟨x, 8, none⟩ = some (.int .i64 ro) := cell_block HT.out.r 8 _ rfl
    have hlx : x < wc.heap.size := block_lt HT.out.r
    go_upto_if 58 with fail
    go_cut [] (fun wx => Hid (∃ lt, TI w wx S bw b1 x #[.int .i64 t, .int .i64 v, .bool wrt, .int .i64 fr, .slice A n kc, .slice none 0 0, .int .i64 (c1 : Int), .slice none 0 0, .int .i64 ro, .int .i64 le, .int .i64 fi, .int .i64 la] g { g with voted := vt, led := lt } ∧ (∀ p ∈ lt, p.2 = 1)))
    case first =>
      by_cases h4 : ro = 4
      · have hle1 := H6.out h4
        subst h4 hle1
        have hlw : bw < wc.heap.size := block_lt HT.out.at_.wb
        have hlb : b1 < wc.heap.size := block_lt HT.out.at_.sb
        have c8 : wc.cell? ⟨bw, 8, none⟩ = some (.map (some g.mL)) := wc8 HT.out.at_.wb
        have d0 : wc.cell? ⟨b1, 0, none⟩ = some (.int .i64 1) := sc0 HT.out.at_.sb
        have r9 : wc.cell? ⟨x, 9, none⟩ = some (.int .i64 1) := cell_block HT.out.r 9 _ rfl
        have lk : ∃ z fnd, (Instr.lookup 39 (.map (some g.mL)) (.int .i64 t) true).run Tryz.prog wc = .ok (.tuple #[.int .i64 z, .bool fnd]) wc ∧ ((fnd = false) ∨ (fnd = true ∧ z = 1)) := by
          have := HT.out.at_.led.look_ok KI Tryz.underlying39 t hti _ zero3
          cases hq : kget g.led t with
          | none => simp only [hq] at this; exact ⟨0, false, this, .inl rfl⟩
          | some u => simp only [hq] at this; exact ⟨u, true, this, .inr ⟨rfl, H5.out _ (kget_mem hq)⟩⟩
        obtain ⟨z, fnd, hlk, hz⟩ := lk
        rcases hz with rfl | ⟨rfl, rfl⟩
        · go_upto_region 10 with (fail)
          go_quiet (fail)
          go_upto_region 12 with (fail)
          generalize hW2 : wc.drewN _ = W2
          have HT2 : Hid (TI w W2 S bw b1 x _ g { g with voted := vt }) := Lib.hid (hW2 ▸ HT.out.drewN _)
          clear hlk hW2 c8 d0 r9 r8 hlx hlw hlb
          have hlw : bw < W2.heap.size := block_lt HT2.out.at_.wb
          have hlb : b1 < W2.heap.size := block_lt HT2.out.at_.sb
          have c8 : W2.cell? ⟨bw, 8, none⟩ = some (.map (some g.mL)) := wc8 HT2.out.at_.wb
          have d0 : W2.cell? ⟨b1, 0, none⟩ = some (.int .i64 1) := sc0 HT2.out.at_.sb
          obtain ⟨W3, hrun, hm3, hg3, hs3⟩ := (HT2.out.at_.drewN 1).led.put KI Tryz.underlying39 t hti 1
          have hrun' : (Instr.mapUpdate 39 (.map (some g.mL)) (.int .i64 t) (.int .i64 1)).run Tryz.prog W2.drew = .ok () W3 := hrun
          go_region
          have HT3 := Lib.hid ((HT2.out.drewN 1).reled rfl hg3 hm3)
          clear hrun hrun' hm3 hg3 hs3 hlw hlb c8 d0
          have hlb : b1 < W3.heap.size := block_lt HT3.out.at_.sb
          have d10 : W3.cell? ⟨b1, 10, none⟩ = some (.int .i64 g.ro) := sc10 HT3.out.at_.sb
          by_cases hro : g.ro = 4
          · have hrb : (g.ro != 4) = false := by simpa using hro
            go_wp2_with (fail)
            go_meet
            exact Lib.hid ⟨_, HT3.out, kput_all H5.out rfl⟩
          · have hrb : (g.ro != 4) = true := by simpa using hro
            have HC := Lib.hid (complete_yes bw b1 h _ S t0 W3 HT3.out.at_ HK.out hh (by have := H2.out rfl hro; have := H3.out; show t0 < g.t; omega) hl)
            go_wp2_with (go_at_call 82; refine HC.out.mono ?_; rintro e w5 ⟨rfl, hb5⟩)
            go_meet
            exact Lib.hid ⟨_, HT3.out.below hb5, kput_all H5.out rfl⟩
        · go_upto_region 10 with (fail)
          go_quiet (fail)
          go_upto_region 12 with (fail)
          generalize hW2 : wc.drewN _ = W2
          have HT2 : Hid (TI w W2 S bw b1 x _ g { g with voted := vt }) := Lib.hid (hW2 ▸ HT.out.drewN _)
          clear hlk hW2 c8 d0 r9 r8 hlx hlw hlb
          have hlw : bw < W2.heap.size := block_lt HT2.out.at_.wb
          have hlb : b1 < W2.heap.size := block_lt HT2.out.at_.sb
          have c8 : W2.cell? ⟨bw, 8, none⟩ = some (.map (some g.mL)) := wc8 HT2.out.at_.wb
          have d0 : W2.cell? ⟨b1, 0, none⟩ = some (.int .i64 1) := sc0 HT2.out.at_.sb
          obtain ⟨W3, hrun, hm3, hg3, hs3⟩ := (HT2.out.at_.drewN 1).led.put KI Tryz.underlying39 t hti 1
          have hrun' : (Instr.mapUpdate 39 (.map (some g.mL)) (.int .i64 t) (.int .i64 1)).run Tryz.prog W2.drew = .ok () W3 := hrun
          go_region
          have HT3 := Lib.hid ((HT2.out.drewN 1).reled rfl hg3 hm3)
          clear hrun hrun' hm3 hg3 hs3 hlw hlb c8 d0
          have hlb : b1 < W3.heap.size := block_lt HT3.out.at_.sb
          have d10 : W3.cell? ⟨b1, 10, none⟩ = some (.int .i64 g.ro) := sc10 HT3.out.at_.sb
          by_cases hro : g.ro = 4
          · have hrb : (g.ro != 4) = false := by simpa using hro
            go_wp2_with (fail)
            go_meet
            exact Lib.hid ⟨_, HT3.out, kput_all H5.out rfl⟩
          · have hrb : (g.ro != 4) = true := by simpa using hro
            have HC := Lib.hid (complete_yes bw b1 h _ S t0 W3 HT3.out.at_ HK.out hh (by have := H2.out rfl hro; have := H3.out; show t0 < g.t; omega) hl)
            go_wp2_with (go_at_call 82; refine HC.out.mono ?_; rintro e w5 ⟨rfl, hb5⟩)
            go_meet
            exact Lib.hid ⟨_, HT3.out.below hb5, kput_all H5.out rfl⟩
      · have h4b : (ro == 4) = false := by simpa using h4
        go_wp2_with (fail)
        go_meet
        exact Lib.hid ⟨g.led, HT.out, H5.out⟩
    case rest =>
      obtain ⟨lt, hT2, hlt2⟩ := hcut.out
      have HT3 := Lib.hid hT2
      have HLT := Lib.hid hlt2
      clear hcut hT2 hlt2 r8 hlx
      have HK2 := Lib.hid (HK.out.mono H1.out)
      obtain ⟨c0, hc0⟩ : ∃ c0 : Nat, g.cm = c0 := ⟨g.cm.toNat, by omega⟩
      have d8 : wc.cell? ⟨b1, 8, none⟩ = some (.int .i64 (c0 : Int)) := by rw [← hc0]; exact sc8 HT3.out.at_.sb
      have r6 : wc.cell? ⟨x, 6, none⟩ = some (.int .i64 (c1 : Int)) := cell_block HT3.out.r 6 _ rfl
      have hlb : b1 < wc.heap.size := block_lt HT3.out.at_.sb
      have hlx : x < wc.heap.size := block_lt HT3.out.r
      have HC0 := Lib.hid hc0
      have hcc : c0 ≤ c1 := by omega
      have hch0 : c0 ≤ h := by omega
      have hc10 : c1 ≤ 100000 := by omega
      have hc1d : c1 ≤ g.dl.length := by omega
      have HHH := Lib.hid hh
      clear hc0 hc hch hc1 hc2 hh
      have w1 : IntKind.i64.wrap ((c0 : Int) + 1) = (c0 : Int) + 1 := IntWalk.i64_in _ (by omega)
      have hcb2 : decide (c1 < c0) = false := by simp; omega
      go_upto_region 15 with (fail)
      go_quiet (fail)
      have HT4 := fun n => HT3.out.drewN n
      have hcb : decide ((c1 : Int) < (c0 : Int)) = false := by simp; omega
      go_wp2_with (fail)
      try rw [hcb2]
      generalize hW4 : wc.drewN _ = W4
      have HT5 : Hid (TI w W4 S bw b1 x #[.int .i64 t, .int .i64 v, .bool wrt, .int .i64 fr, .slice A n kc, .slice none 0 0, .int .i64 (c1 : Int), .slice none 0 0, .int .i64 ro, .int .i64 le, .int .i64 fi, .int .i64 la] g { g with voted := vt, led := lt, known := g.known, tm := g.tm, high := (h : Int) }) := Lib.hid (by
        rw [← hW4, ← HHH.out]; exact HT4 _)
      clear HT4 HT3 hW4 d8 r6 hlb hlx w1
      go_loopw [13] (fun i wr => ∃ (k h2 : Nat) (kn : List (Int × (LE × List Int))) (tm2 : List (Int × Int)), i = .int .i64 ((k : Int) + 1) ∧ c0 ≤ k ∧ k ≤ c1 ∧ k ≤ h2 ∧ TI w wr S bw b1 x #[.int .i64 t, .int .i64 v, .bool wrt, .int .i64 fr, .slice A n kc, .slice none 0 0, .int .i64 (c1 : Int), .slice none 0 0, .int .i64 ro, .int .i64 le, .int .i64 fi, .int .i64 la] g { g with voted := vt, led := lt, known := kn, tm := tm2, high := (h2 : Int) } ∧ KInv kn tm2 h2 (g.dl.map con) t) (fun i _ => c1 + 1 - (intOf i).toNat)
      case atStart => exact ⟨c0, h, g.known, g.tm, rfl, Nat.le_refl _, hcc, hch0, HT5.out, HK2.out⟩
      case round =>
        obtain ⟨k, h2, kn, tm2, rfl, hk0, hk1, hkh, hT, hKI⟩ := hrel
        have HT := Lib.hid hT
        have HKI := Lib.hid hKI
        clear hT hKI HT5
        have hlx : x < wr.heap.size := block_lt HT.out.r
        have r6 : wr.cell? ⟨x, 6, none⟩ = some (.int .i64 (c1 : Int)) := cell_block HT.out.r 6 _ rfl
        by_cases hlt : k < c1
        · obtain ⟨p, hp⟩ : ∃ p, g.dl[k]? = some p := ⟨_, List.getElem?_eq_getElem (by omega)⟩
          have HP := Lib.hid hp
          have hc1' : (k : Int) + 1 ≤ c1 := by omega
          clear hp
          go_wp2_with (fail)
          refine (entry_yes bw b1 _ k p wr HT.out.at_.sb (HT.out.at_.dl.ents HT.out.at_.bd) HT.out.at_.dn HP.out hl).mono ?_
          rintro e w2 ⟨rfl, hb2⟩
          unfold encK
          have hB2 : Below wr.heap.size wr (w2.alloc (.cells #[.int .i64 p.1.idx, .int .i64 p.1.term, .slice p.1.A p.1.n p.1.c] 67)) := hb2.alloc hb2.size _
          have HT2 := Lib.hid (HT.out.below hB2)
          have hlw2 : bw < (w2.alloc (.cells #[.int .i64 p.1.idx, .int .i64 p.1.term, .slice p.1.A p.1.n p.1.c] 67)).heap.size := block_lt HT2.out.at_.wb
          have hlb2 : b1 < (w2.alloc (.cells #[.int .i64 p.1.idx, .int .i64 p.1.term, .slice p.1.A p.1.n p.1.c] 67)).heap.size := block_lt HT2.out.at_.sb
          have c10 : (w2.alloc (.cells #[.int .i64 p.1.idx, .int .i64 p.1.term, .slice p.1.A p.1.n p.1.c] 67)).cell? ⟨bw, 10, none⟩ = some (.map (some g.mK)) := cell_block HT2.out.at_.wb 10 _ rfl
          have hok : okI ((k : Int) + 1) := by unfold okI; omega
          have lkk := HT2.out.at_.known.look_ok KI Tryz.underlying41 ((k : Int) + 1) hok _ zero67
          by_cases hkk : k < h2
          · obtain ⟨q, hq, hlq⟩ := HKI.out.k k hkk
            simp only [hq] at lkk
            unfold encK at lkk
            have HSL : Hid (∀ W i j, Below (w2.alloc (.cells #[.int .i64 p.1.idx, .int .i64 p.1.term, .slice p.1.A p.1.n p.1.c] 67)).heap.size (w2.alloc (.cells #[.int .i64 p.1.idx, .int .i64 p.1.term, .slice p.1.A p.1.n p.1.c] 67)) W → W.heap[i]? = some (.cells #[.int .i64 p.1.idx, .int .i64 p.1.term, .slice p.1.A p.1.n p.1.c] 67 (0, 0)) → W.heap[j]? = some (.cells #[.int .i64 q.1.idx, .int .i64 q.1.term, .slice q.1.A q.1.n q.1.c] 67 (0, 0)) →
                Calls Tryz.prog 45 #[.slice (some ⟨i, 0, none⟩) 1 1, .slice (some ⟨j, 0, none⟩) 1 1] W fun e w' => e = .returned (.bool true) ∧ ∃ k, w' = W.drewN k) := Lib.hid (fun W i j hW hi hj => by
              have hA := HT2.out.at_.below hW
              have hq' := hA.kb _ (kget_mem hq)
              have hp' := hA.dl.each _ (List.mem_of_getElem? HP.out)
              have hcon : con p = con q := by
                rw [List.getElem?_map, HP.out] at hlq
                simpa using hlq
              exact sameLog_yes _ _ 1 1 1 1 [p] [q] W (ents_one' hi hp'.1 hA.bd (block_lt hi) hp'.2.1 hp'.2.2) rfl (ents_one' hj hq'.1 hA.bd (block_lt hj) hq'.2.1 hq'.2.2) rfl (by simp) (by simp [hcon]))
            have HQ := Lib.hid (And.intro hq hlq)
            clear hq hlq
            go_wp2_with (fail)
            refine (HSL.out _ _ _ ((((Below.refl _ _).alloc (Nat.le_refl _) _).alloc (by simp) _).alloc (by simp) _) (by have := block_alloc (World.alloc_at ((w2.alloc (.cells #[.int .i64 p.1.idx, .int .i64 p.1.term, .slice p.1.A p.1.n p.1.c] 67)).alloc (.cells #[.int .i64 q.1.idx, .int .i64 q.1.term, .slice q.1.A q.1.n q.1.c] 67)) (.cells #[.int .i64 p.1.idx, .int .i64 p.1.term, .slice p.1.A p.1.n p.1.c] 67)) (.cells #[.int .i64 q.1.idx, .int .i64 q.1.term, .slice q.1.A q.1.n q.1.c] 67); simpa using this) (by have := World.alloc_at (((w2.alloc (.cells #[.int .i64 p.1.idx, .int .i64 p.1.term, .slice p.1.A p.1.n p.1.c] 67)).alloc (.cells #[.int .i64 q.1.idx, .int .i64 q.1.term, .slice q.1.A q.1.n q.1.c] 67)).alloc (.cells #[.int .i64 p.1.idx, .int .i64 p.1.term, .slice p.1.A p.1.n p.1.c] 67)) (.cells #[.int .i64 q.1.idx, .int .i64 q.1.term, .slice q.1.A q.1.n q.1.c] 67); simpa using this)).mono ?_
            rintro e w6 ⟨rfl, nq6, rfl⟩
            go_upto_region 27 with (fail)
            have hB7 : Below (w2.alloc (.cells #[.int .i64 p.1.idx, .int .i64 p.1.term, .slice p.1.A p.1.n p.1.c] 67)).heap.size (w2.alloc (.cells #[.int .i64 p.1.idx, .int .i64 p.1.term, .slice p.1.A p.1.n p.1.c] 67)) (((((w2.alloc (.cells #[.int .i64 p.1.idx, .int .i64 p.1.term, .slice p.1.A p.1.n p.1.c] 67)).alloc (.cells #[.int .i64 q.1.idx, .int .i64 q.1.term, .slice q.1.A q.1.n q.1.c] 67)).alloc (.cells #[.int .i64 p.1.idx, .int .i64 p.1.term, .slice p.1.A p.1.n p.1.c] 67)).alloc (.cells #[.int .i64 q.1.idx, .int .i64 q.1.term, .slice q.1.A q.1.n q.1.c] 67)).drewN nq6) := below_drewN' ((((Below.refl _ _).alloc (Nat.le_refl _) _).alloc (by simp) _).alloc (by simp) _) _
            clear HSL
            generalize ((((w2.alloc (.cells #[.int .i64 p.1.idx, .int .i64 p.1.term, .slice p.1.A p.1.n p.1.c] 67)).alloc (.cells #[.int .i64 q.1.idx, .int .i64 q.1.term, .slice q.1.A q.1.n q.1.c] 67)).alloc (.cells #[.int .i64 p.1.idx, .int .i64 p.1.term, .slice p.1.A p.1.n p.1.c] 67)).alloc (.cells #[.int .i64 q.1.idx, .int .i64 q.1.term, .slice q.1.A q.1.n q.1.c] 67)).drewN nq6 = W7 at hB7 ⊢
            have hok' := hok
            have HB7 := Lib.hid hB7
            have HT7 := Lib.hid (HT.out.below (hB2.trans (hB7.mono hB2.size)))
            have hY7 := (hB7.block w2.heap.size (by rw [World.alloc_size]; exact Nat.lt_succ_self _)).trans (World.alloc_at w2 (.cells #[.int .i64 p.1.idx, .int .i64 p.1.term, .slice p.1.A p.1.n p.1.c] 67))
            obtain ⟨y, hy⟩ : ∃ y, y = w2.heap.size := ⟨_, rfl⟩
            rw [← hy] at hY7
            rw [← hy]
            clear hy
            have hly : y < W7.heap.size := block_lt hY7
            have y0 : W7.cell? ⟨y, 0, none⟩ = some (.int .i64 p.1.idx) := cell_block hY7 0 _ rfl
            have y1 : W7.cell? ⟨y, 1, none⟩ = some (.int .i64 p.1.term) := cell_block hY7 1 _ rfl
            have y2 : W7.cell? ⟨y, 2, none⟩ = some (.slice p.1.A p.1.n p.1.c) := cell_block hY7 2 _ rfl
            clear c10 lkk hlw2 hlb2 hB7 HB7 hlx r6
            have hlw7 : bw < W7.heap.size := block_lt HT7.out.at_.wb
            have c10 : W7.cell? ⟨bw, 10, none⟩ = some (.map (some g.mK)) := cell_block HT7.out.at_.wb 10 _ rfl
            obtain ⟨W8, hrun, hm8, hg8, hs8⟩ := (HT7.out.at_.drewN 1).known.put KI Tryz.underlying41 ((k : Int) + 1) hok p
            have hrun' : (Instr.mapUpdate 41 (.map (some g.mK)) (.int .i64 ((k : Int) + 1)) (.agg #[.int .i64 p.1.idx, .int .i64 p.1.term, .slice p.1.A p.1.n p.1.c])).run Tryz.prog W7.drew = .ok () W8 := hrun
            go_region
            have HT8 := Lib.hid ((HT7.out.drewN 1).reknown rfl hg8 hm8 (kput_all (HT7.out.drewN 1).at_.kb ((HT7.out.drewN 1).at_.dl.each _ (List.mem_of_getElem? HP.out))))
            clear hrun hrun' hm8 hg8 hs8 hlw7 c10 y0 y1 y2 hY7 hly
            have hlw8 : bw < W8.heap.size := block_lt HT8.out.at_.wb
            have c12 : W8.cell? ⟨bw, 12, none⟩ = some (.int .i64 (h2 : Int)) := cell_block HT8.out.at_.wb 12 _ rfl
            have hf8 := frozen_block HT8.out.at_.wb
            have HT9 := Lib.hid (HT8.out.rehigh (h2 : Int))
            obtain ⟨τ, hτ, hτt⟩ := HKI.out.t k hkk
            have ltt := HT9.out.at_.tm.look KI Tryz.underlying39 ((k : Int) + 1) hok _ zero3
            simp only [hτ] at ltt
            have c11 : (W8.setCell ⟨bw, 12, none⟩ (.int .i64 (h2 : Int))).cell? ⟨bw, 11, none⟩ = some (.map (some g.mT)) := cell_block HT9.out.at_.wb 11 _ rfl
            have hmx : ¬ ((h2 : Int) < (k : Int) + 1) := by omega
            have hmx2 : ¬ (h2 < k + 1) := by omega
            have hlw9 : bw < (W8.setCell ⟨bw, 12, none⟩ (.int .i64 (h2 : Int))).heap.size := block_lt HT9.out.at_.wb
            have htt : ¬ (t < τ) := by omega
            go_wp2_with (fail)
            go_roundw
            case rel => exact ⟨k + 1, h2, _, _, by go_num, by omega, by omega, by omega, HT9.out, HKI.out.old hkk (by rw [List.getElem?_map, HP.out]; rfl)⟩
            case measure => simp [intOf]; omega
          · have hkh2 : h2 = k := by omega
            subst hkh2
            have hnk := HKI.out.n ((h2 : Int) + 1) (by omega)
            simp only [hnk] at lkk
            go_upto_region 27 with (fail)
            have hB7 : Below (w2.alloc (.cells #[.int .i64 p.1.idx, .int .i64 p.1.term, .slice p.1.A p.1.n p.1.c] 67)).heap.size (w2.alloc (.cells #[.int .i64 p.1.idx, .int .i64 p.1.term, .slice p.1.A p.1.n p.1.c] 67)) ((w2.alloc (.cells #[.int .i64 p.1.idx, .int .i64 p.1.term, .slice p.1.A p.1.n p.1.c] 67)).alloc (.cells #[.int .i64 0, .int .i64 0, .slice none 0 0] 67)) := (Below.refl _ _).alloc (Nat.le_refl _) _
            generalize (w2.alloc (.cells #[.int .i64 p.1.idx, .int .i64 p.1.term, .slice p.1.A p.1.n p.1.c] 67)).alloc (.cells #[.int .i64 0, .int .i64 0, .slice none 0 0] 67) = W7 at hB7 ⊢
            have hok' := hok
            have HB7 := Lib.hid hB7
            have HT7 := Lib.hid (HT.out.below (hB2.trans (hB7.mono hB2.size)))
            have hY7 := (hB7.block w2.heap.size (by rw [World.alloc_size]; exact Nat.lt_succ_self _)).trans (World.alloc_at w2 (.cells #[.int .i64 p.1.idx, .int .i64 p.1.term, .slice p.1.A p.1.n p.1.c] 67))
            obtain ⟨y, hy⟩ : ∃ y, y = w2.heap.size := ⟨_, rfl⟩
            rw [← hy] at hY7
            rw [← hy]
            clear hy
            have hly : y < W7.heap.size := block_lt hY7
            have y0 : W7.cell? ⟨y, 0, none⟩ = some (.int .i64 p.1.idx) := cell_block hY7 0 _ rfl
            have y1 : W7.cell? ⟨y, 1, none⟩ = some (.int .i64 p.1.term) := cell_block hY7 1 _ rfl
            have y2 : W7.cell? ⟨y, 2, none⟩ = some (.slice p.1.A p.1.n p.1.c) := cell_block hY7 2 _ rfl
            clear c10 lkk hlw2 hlb2 hB7 HB7 hlx r6
            have hlw7 : bw < W7.heap.size := block_lt HT7.out.at_.wb
            have c10 : W7.cell? ⟨bw, 10, none⟩ = some (.map (some g.mK)) := cell_block HT7.out.at_.wb 10 _ rfl
            obtain ⟨W8, hrun, hm8, hg8, hs8⟩ := (HT7.out.at_.drewN 1).known.put KI Tryz.underlying41 ((h2 : Int) + 1) hok p
            have hrun' : (Instr.mapUpdate 41 (.map (some g.mK)) (.int .i64 ((h2 : Int) + 1)) (.agg #[.int .i64 p.1.idx, .int .i64 p.1.term, .slice p.1.A p.1.n p.1.c])).run Tryz.prog W7.drew = .ok () W8 := hrun
            go_region
            have HT8 := Lib.hid ((HT7.out.drewN 1).reknown rfl hg8 hm8 (kput_all (HT7.out.drewN 1).at_.kb ((HT7.out.drewN 1).at_.dl.each _ (List.mem_of_getElem? HP.out))))
            clear hrun hrun' hm8 hg8 hs8 hlw7 c10 y0 y1 y2 hY7 hly
            have hlw8 : bw < W8.heap.size := block_lt HT8.out.at_.wb
            have c12 : W8.cell? ⟨bw, 12, none⟩ = some (.int .i64 (h2 : Int)) := cell_block HT8.out.at_.wb 12 _ rfl
            have hf8 := frozen_block HT8.out.at_.wb
            have HT9 := Lib.hid (HT8.out.rehigh ((h2 : Int) + 1))
            obtain ⟨W10, hrun, hm10, hg10, hs10⟩ := HT9.out.at_.tm.put KI Tryz.underlying39 ((h2 : Int) + 1) hok t
            have hrun' : (Instr.mapUpdate 39 (.map (some g.mT)) (.int .i64 ((h2 : Int) + 1)) (.int .i64 t)).run Tryz.prog (W8.setCell ⟨bw, 12, none⟩ (.int .i64 ((h2 : Int) + 1))) = .ok () W10 := hrun
            have c11 : (W8.setCell ⟨bw, 12, none⟩ (.int .i64 ((h2 : Int) + 1))).cell? ⟨bw, 11, none⟩ = some (.map (some g.mT)) := cell_block HT9.out.at_.wb 11 _ rfl
            have hmx : (h2 : Int) < (h2 : Int) + 1 := by omega
            have hlw9 : bw < (W8.setCell ⟨bw, 12, none⟩ (.int .i64 ((h2 : Int) + 1))).heap.size := block_lt HT9.out.at_.wb
            go_wp2_with (fail)
            go_roundw
            case rel => exact ⟨h2 + 1, h2 + 1, _, _, by go_num, by omega, by omega, by omega, HT9.out.retm rfl hg10 hm10, HKI.out.new (by rw [List.getElem?_map, HP.out]; rfl)⟩
            case measure => simp [intOf]; omega
        · have hc1' : ¬ ((k : Int) + 1 ≤ c1) := by omega
          have hkc : k = c1 := by omega
          have hlb : b1 < wr.heap.size := block_lt HT.out.at_.sb
          have d8 : wr.cell? ⟨b1, 8, none⟩ = some (.int .i64 g.cm) := cell_block HT.out.at_.sb 8 _ rfl
          have hfb := frozen_block HT.out.at_.sb
          have HTa := Lib.hid (HT.out.recm (c1 : Int))
          have d9 : wr.cell? ⟨b1, 9, none⟩ = some (.int .i64 g.most) := cell_block HT.out.at_.sb 9 _ rfl
          go_upto_region 32 with (fail)
          go_region
          generalize (if g.most < (c1 : Int) then (c1 : Int) else g.most) = z
          go_wp2
          go_ret
          exact ⟨rfl, _, h2, ⟨((HTa.out.remost _).drewN 1).at_, rfl, HKI.out, rfl, by omega, HVT.out, HLT.out, ((HTa.out.remost _).drewN 1).chg⟩⟩
end Go.Proofs.YtocogcgnahbpkaaGreat
