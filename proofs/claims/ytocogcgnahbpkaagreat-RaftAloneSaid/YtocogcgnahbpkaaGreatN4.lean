/-
  raft.New where it says yes.
-/
import Derived.Test.YtocogcgnahbpkaaGreatN3
import Derived.Deep.RegionHeld3
namespace Go.Proofs.YtocogcgnahbpkaaGreat
open Go.RowKit

theorem cells6 {w : World} {b : Nat} {a0 a1 a2 a3 a4 a5 : Value} {t : TypeId} (h : w.heap[b]? = some (.cells #[a0, a1, a2, a3, a4, a5] t (0, 0))) :
    w.cell? ⟨b, 0, none⟩ = some a0 ∧ w.cell? ⟨b, 1, none⟩ = some a1 ∧ w.cell? ⟨b, 2, none⟩ = some a2 ∧ w.cell? ⟨b, 3, none⟩ = some a3 ∧ w.cell? ⟨b, 4, none⟩ = some a4 ∧ w.cell? ⟨b, 5, none⟩ = some a5 :=
  ⟨cell_block h 0 _ rfl, cell_block h 1 _ rfl, cell_block h 2 _ rfl, cell_block h 3 _ rfl, cell_block h 4 _ rfl, cell_block h 5 _ rfl⟩

theorem Ents.drew {w : World} {B : Nat} {A : Option Addr} {ps : List (LE × List Int)} (h : Ents w B A ps) : Ents w.drew B A ps := ⟨h.row, h.each⟩
theorem Ents.drewN {w : World} {B : Nat} {A : Option Addr} {ps : List (LE × List Int)} (h : Ents w B A ps) (n : Nat) : Ents (w.drewN n) B A ps := ⟨h.row, h.each⟩

def NC.new (pA : Option Addr) (pn pc : Nat) (peers : List Int) (lA : Option Addr) (ln lc : Nat) (log : List (LE × List Int)) : NC :=
  ⟨pA, pn, pc, peers, lA, ln, lc, log, none, [], none, [], none, [], none, [], none, [], none, 0, 0, [], none, []⟩
def NS.new (id least most beatc batch term vote snap snapTerm commit draw : Int) : NS := NS.rest ⟨id, least, most, beatc, batch, term, vote, snap, snapTerm, commit, 1, 0, 0, 0, 0, 0, draw, 0, 0, 0⟩

set_option maxRecDepth 100000 in
set_option maxHeartbeats 2000000 in
theorem new_yes (id : Int) (pA : Option Addr) (pn pc : Nat) (peers : List Int) (least most beatc batch : Int) (term vote snap snapTerm commit : Int) (lA : Option Addr) (ln lc : Nat) (ps : List (LE × List Int)) (draw : Int) (w : World)
    (hp : Row encI 1 w w.heap.size pA peers) (hpn : pn = peers.length) (hcfg : CfgOK id peers least most beatc batch) (hx : Ents w w.heap.size lA ps) (hn : ln = ps.length) (hok : StOK peers term vote snap snapTerm commit (ps.map con)) :
    Calls Tryz.prog 47 #[.agg #[.int .i64 id, .slice pA pn pc, .int .i64 least, .int .i64 most, .int .i64 beatc, .int .i64 batch], .agg #[.int .i64 term, .int .i64 vote, .int .i64 snap, .int .i64 snapTerm, .int .i64 commit, .slice lA ln lc], .int .i64 draw] w
      fun e w' => ∃ F g c, e = .returned (.tuple #[.pointer (some ⟨g, 0, none⟩), .int .i64 0]) ∧ NdAt w' F (fun _ => False) g (NS.new id least most beatc batch term vote snap snapTerm commit draw) c ∧ Below w.heap.size w w' ∧ (∀ i, F i → w.heap.size ≤ i)
        ∧ c.peers = peers ∧ c.log.map con = ps.map con ∧ c = NC.new c.pA c.pn c.pc c.peers c.lA c.ln c.lc c.log := by
  subst hpn hn
  have hcfg' := Lib.hid hcfg
  have hok' := Lib.hid hok
  have hpl := hcfg.len
  have hpsl : ps.length ≤ 65536 := by have := hok.len; simpa using this
  clear hcfg hok
  obtain ⟨cc, hcc⟩ : ∃ cc : Array Value, cc = #[.int .i64 id, .slice pA peers.length pc, .int .i64 least, .int .i64 most, .int .i64 beatc, .int .i64 batch] := ⟨_, rfl⟩
  obtain ⟨sc, hsc⟩ : ∃ sc : Array Value, sc = #[.int .i64 term, .int .i64 vote, .int .i64 snap, .int .i64 snapTerm, .int .i64 commit, .slice lA ps.length lc] := ⟨_, rfl⟩
  obtain ⟨W0, hW0⟩ : ∃ W0 : World, W0 = (w.alloc (.cells cc 27)).alloc (.cells sc 90) := ⟨_, rfl⟩
  have hb0 : Below w.heap.size w W0 := by rw [hW0]; exact ((Below.refl _ _).alloc (Nat.le_refl _) _).alloc (by simp) _
  have B1 : W0.heap[w.heap.size]? = some (.cells cc 27 (0, 0)) := by rw [hW0]; exact block_alloc (World.alloc_at w _) _
  have B2 : W0.heap[w.heap.size + 1]? = some (.cells sc 90 (0, 0)) := by rw [hW0]; have := World.alloc_at (w.alloc (.cells cc 27)) (.cells sc 90); rwa [World.alloc_size] at this
  have hz0 : W0.heap.size = w.heap.size + 2 := by rw [hW0]; simp
  have hx0 : Ents W0 W0.heap.size lA ps := (hx.below hb0).more hb0.size
  have hp0 : Row encI 1 W0 W0.heap.size pA peers := (hp.below hb0).more hb0.size
  have HW0 := Lib.hid hW0
  clear hW0
  have HZ0 := Lib.hid hz0
  clear hz0
  have HB1 := Lib.hid B1
  clear B1
  have HB2 := Lib.hid B2
  clear B2
  go_enter Tryz.func47, Tryz.ntmps47
  go_wp2_with (fail)
  rw [← hcc, ← hsc, ← HW0.out]
  clear HW0
  subst hcc hsc
  refine (configured_yes id pA _ pc peers least most beatc batch _ hp0 rfl hcfg'.out).mono ?_
  rintro e w1 ⟨rfl, hb1⟩
  have D1 := Lib.hid ((hb1.block _ (block_lt HB1.out)).trans HB1.out)
  have D2 := Lib.hid ((hb1.block _ (block_lt HB2.out)).trans HB2.out)
  have hx1 : Ents w1 w1.heap.size lA ps := (hx0.below hb1).more hb1.size
  have hp1 : Row encI 1 w1 w1.heap.size pA peers := (hp0.below hb1).more hb1.size
  have hbb1 : Below w.heap.size w w1 := hb0.trans (hb1.mono hb0.size)
  have HZ1 : w.heap.size + 2 ≤ w1.heap.size := by have := HZ0.out; have := hb1.size; omega
  clear HB1 HB2 hx0 hp0 hb0 HZ0 hb1
  obtain ⟨a0, a1, a2, a3, a4, a5⟩ := cells6 D1.out
  obtain ⟨e0, e1, e2, e3, e4, e5⟩ := cells6 D2.out
  go_wp2_with (fail)
  refine (stated_yes id pA _ pc peers least most beatc batch term vote snap snapTerm commit lA _ lc ps _ hp1 rfl hpl hx1 rfl hok'.out).mono ?_
  rintro e w2 ⟨rfl, hb2⟩
  have D1' := Lib.hid ((hb2.block _ (block_lt D1.out)).trans D1.out)
  have D2' := Lib.hid ((hb2.block _ (block_lt D2.out)).trans D2.out)
  have hx2 : Ents w2 w2.heap.size lA ps := (hx1.below hb2).more hb2.size
  have hp2 : Row encI 1 w2 w2.heap.size pA peers := (hp1.below hb2).more hb2.size
  have hbb2 : Below w.heap.size w w2 := hbb1.trans (hb2.mono hbb1.size)
  have HZ2 : w.heap.size + 2 ≤ w2.heap.size := by have := hb2.size; omega
  clear D1 D2 hx1 hp1 hbb1 HZ1 hb2 a0 a1 a2 a3 a4 a5 e0 e1 e2 e3 e4 e5
  obtain ⟨a0, a1, a2, a3, a4, a5⟩ := cells6 D1'.out
  obtain ⟨e0, e1, e2, e3, e4, e5⟩ := cells6 D2'.out
  have hf1 := frozen_block D1'.out
  go_wp2_with (fail)
  refine (iclone_any pA _ pc peers _ hp2 rfl (by omega)).mono ?_
  rintro e w3 ⟨v3, rfl, hown3, hb3⟩
  obtain ⟨A3, k3, rfl⟩ := hown3.form
  have F1 := Lib.hid ((hb3.block _ (block_lt D1'.out)).trans D1'.out)
  have F2 := Lib.hid ((hb3.block _ (block_lt D2'.out)).trans D2'.out)
  have hx3 : Ents w3 w3.heap.size lA ps := (hx2.below hb3).more hb3.size
  have hbb3 : Below w.heap.size w w3 := hbb2.trans (hb3.mono hbb2.size)
  have HZ3 : w.heap.size + 2 ≤ w3.heap.size := by have := hb3.size; omega
  clear D1' D2' hx2 hp2 hbb2 hb3 a0 a1 a2 a3 a4 a5 e0 e1 e2 e3 e4 e5 hf1
  obtain ⟨a0, a1, a2, a3, a4, a5⟩ := cells6 F1.out
  obtain ⟨e0, e1, e2, e3, e4, e5⟩ := cells6 F2.out
  have hf1 := frozen_block F1.out
  go_wp2_with (fail)
  have G1 := Lib.hid (block_setCell (o := 1) F1.out (.slice A3 peers.length k3))
  have G2 := Lib.hid (block_other F2.out ⟨w.heap.size, 1, none⟩ (.slice A3 peers.length k3) (by simp))
  have hbb4 : Below w.heap.size w (w3.setCell ⟨w.heap.size, 1, none⟩ (.slice A3 peers.length k3)) := hbb3.setCell (p := ⟨w.heap.size, 1, none⟩) (Nat.le_refl _) _
  have hx4 : Ents (w3.setCell ⟨w.heap.size, 1, none⟩ (.slice A3 peers.length k3)) (w3.setCell ⟨w.heap.size, 1, none⟩ (.slice A3 peers.length k3)).heap.size lA ps := (hx.below hbb4).more hbb4.size
  have hown4 : Own encI 1 3 (w3.setCell ⟨w.heap.size, 1, none⟩ (.slice A3 peers.length k3)) w2.heap.size (.slice A3 peers.length k3) peers := ownsRow_setCell_below hown3 (by show w.heap.size < _; omega) _
  clear F1 F2 a0 a1 a2 a3 a4 a5 e0 e1 e2 e3 e4 e5 hf1 hbb3 hx3 hown3
  generalize w3.setCell ⟨w.heap.size, 1, none⟩ (.slice A3 peers.length k3) = w4 at G1 G2 hx4 hbb4 hown4 ⊢
  have HZ4 : w.heap.size + 2 ≤ w4.heap.size := by have := block_lt G2.out; omega
  clear HZ3
  obtain ⟨a0, a1, a2, a3, a4, a5⟩ := cells6 (show w4.heap[w.heap.size]? = some (.cells #[.int .i64 id, .slice A3 peers.length k3, .int .i64 least, .int .i64 most, .int .i64 beatc, .int .i64 batch] 27 (0, 0)) from G1.out)
  obtain ⟨e0, e1, e2, e3, e4, e5⟩ := cells6 G2.out
  have m1 : w.heap.size < w4.heap.size := by omega
  have m2 : w.heap.size + 1 < w4.heap.size := by omega
  go_region_held3 (fun w' => (w'.cell? ⟨w.heap.size, 0, none⟩ = some (.int .i64 id) ∧ w'.cell? ⟨w.heap.size, 1, none⟩ = some (.slice A3 peers.length k3) ∧ w'.cell? ⟨w.heap.size, 2, none⟩ = some (.int .i64 least) ∧ w'.cell? ⟨w.heap.size, 3, none⟩ = some (.int .i64 most) ∧ w'.cell? ⟨w.heap.size, 4, none⟩ = some (.int .i64 beatc) ∧ w'.cell? ⟨w.heap.size, 5, none⟩ = some (.int .i64 batch)) ∧
      (w'.cell? ⟨w.heap.size + 1, 0, none⟩ = some (.int .i64 term) ∧ w'.cell? ⟨w.heap.size + 1, 1, none⟩ = some (.int .i64 vote) ∧ w'.cell? ⟨w.heap.size + 1, 2, none⟩ = some (.int .i64 snap) ∧ w'.cell? ⟨w.heap.size + 1, 3, none⟩ = some (.int .i64 snapTerm) ∧ w'.cell? ⟨w.heap.size + 1, 4, none⟩ = some (.int .i64 commit) ∧ w'.cell? ⟨w.heap.size + 1, 5, none⟩ = some (.slice lA ps.length lc)))
    (first | go_keep | (go_split_ands; exact ⟨⟨((bcell hb5).1 _ _ m1).trans a0, ((bcell hb5).1 _ _ m1).trans a1, ((bcell hb5).1 _ _ m1).trans a2, ((bcell hb5).1 _ _ m1).trans a3, ((bcell hb5).1 _ _ m1).trans a4, ((bcell hb5).1 _ _ m1).trans a5⟩, ((bcell hb5).1 _ _ m2).trans e0, ((bcell hb5).1 _ _ m2).trans e1, ((bcell hb5).1 _ _ m2).trans e2, ((bcell hb5).1 _ _ m2).trans e3, ((bcell hb5).1 _ _ m2).trans e4, ((bcell hb5).1 _ _ m2).trans e5⟩))
    ((go_at_call 58; refine (copied_any lA _ lc ps _ (by first | exact hx4.drew | exact hx4) rfl (by omega)).mono ?_; rintro e w5 ⟨v5, qs5, rfl, hO5, hq5, hb5⟩; obtain ⟨A5, k5, rfl⟩ := hO5.own.form))
  have hql : qs5.length = ps.length := by simpa using congrArg List.length hq5
  have hz5 := hb5.size
  have hbb5 : Below w.heap.size w w5 := hbb4.trans ((show Below w4.heap.size w4 w5 from ⟨hb5.os, hb5.tape, hb5.output, hb5.size, hb5.block⟩).mono hbb4.size)
  have hz5' : w4.heap.size ≤ w5.heap.size := hz5
  have hO5' : OEnts w5 w4.heap.size (.slice A5 (List.map (fun x => x.fst) qs5).length k5) qs5 := hO5
  have hO6 := hO5'.alloc
  have hown6 : ∀ o, Own encI 1 3 (w5.alloc o) w2.heap.size (.slice A3 peers.length k3) peers := fun o => (hown4.below (show Below w4.heap.size w4 w5 from ⟨hb5.os, hb5.tape, hb5.output, hb5.size, hb5.block⟩) (Nat.le_refl _)).alloc o
  have hbb6 : ∀ o, Below w.heap.size w (w5.alloc o) := fun o => hbb5.alloc hbb5.size o
  have hat : ∀ o, (w5.alloc o).heap[w5.heap.size]? = some o := fun o => World.alloc_at w5 o
  have hsz : ∀ o, (w5.alloc o).heap.size = w5.heap.size + 1 := fun o => World.alloc_size w5 o
  have HQ := Lib.hid hq5
  have HQL := Lib.hid hql
  have H4 := Lib.hid (show w.heap.size + 2 ≤ w4.heap.size ∧ w.heap.size ≤ w2.heap.size from ⟨HZ4, by have := HZ2; omega⟩)
  clear hq5 hql a0 a1 a2 a3 a4 a5 e0 e1 e2 e3 e4 e5 hb5 hO5 hO5' hx4 hown4 hbb4 hbb5 HZ4 G1 G2 m1 m2 hz5
  obtain ⟨s0, hs0⟩ : ∃ s0 : NS, s0 = ⟨id, least, most, beatc, batch, term, vote, snap, snapTerm, commit, 1, 0, 0, 0, 0, 0, draw, 0, 0, 0⟩ := ⟨_, rfl⟩
  obtain ⟨c0, hc0⟩ : ∃ c0 : NC, c0 = (NC.new A3 peers.length k3 peers A5 qs5.length k5 qs5) := ⟨_, rfl⟩
  obtain ⟨w6, hw6⟩ : ∃ w6 : World, w6 = w5.alloc (.cells (ncells s0 c0) 126) := ⟨_, rfl⟩
  have B6 := Lib.hid (show w6.heap[w5.heap.size]? = some (.cells (ncells s0 c0) 126 (0, 0)) by rw [hw6]; exact hat _)
  have O6 := hO6 (.cells (ncells s0 c0) 126)
  have P6 := hown6 (.cells (ncells s0 c0) 126)
  have W6 := hbb6 (.cells (ncells s0 c0) 126)
  have Z6 := hsz (.cells (ncells s0 c0) 126)
  rw [← hw6] at O6 P6 W6 Z6
  simp only [List.length_map] at O6
  clear hO6 hown6 hbb6 hat hsz
  have HZ6 := Lib.hid Z6
  clear Z6
  subst hs0 hc0
  have g1 := hcfg'.out.beat1
  have g2 := hcfg'.out.beat2
  have g3 : 0 ≤ least := by omega
  have g4 := hcfg'.out.most1
  have g5 := hcfg'.out.most2
  simp only [ncells, NC.new] at hw6
  rw [← hw6]
  clear hw6
  go_wp2_with (go_at_call 66; refine (rest_any w5.heap.size _ _ _ B6.out g3 g4 g5).mono ?_; rintro e w7 ⟨rfl, hc7, hb7⟩; have HB7 := Lib.hid hb7; clear hb7)
  go_ret2
  have hs7 := hc7.size
  have hk7 : ∀ i, i < w6.heap.size → i ≠ w5.heap.size → w7.heap[i]? = w6.heap[i]? := fun i hi hn => hc7.keep hi hn
  have hz6 := HZ6.out
  obtain ⟨h41, h42⟩ := H4.out
  refine ⟨fun i => w.heap.size ≤ i ∧ i < w6.heap.size, _, _, rfl, ⟨HB7.out, by constructor <;> omega, ?_⟩, ?_, fun i hi => hi.1, rfl, HQ.out, rfl⟩
  · refine NCAt.keepB (w := w6) ⟨fun i hi => hi.2, fun i hi => hi.elim, fun i _ hi => hi, P6.weaken (Nat.zero_le _), fun k hk => ?_, O6.entsF (F := fun i => w.heap.size ≤ i ∧ i < w6.heap.size) (fun i hi hl => ⟨by omega, hl⟩), rfl, rfl, rfl, rfl, rfl, rfl, MsgsF.nil, by simp [NC.new]⟩ B6.out hs7 (fun i _ hi hn => hk7 i hi hn)
    have := P6.lt k hk
    exact ⟨by omega, this.2⟩
  · exact W6.trans ⟨hc7.os, hc7.tape, hc7.output, hs7, fun i hi => hk7 i (by omega) (by omega)⟩
end Go.Proofs.YtocogcgnahbpkaaGreat
