/-
  strataref16.CopyLog, strataref16.SameLog.
-/
import Derived.Test.YtocogcgnahbpkaaGreatA2
import Derived.Test.YtocogcgnahbpkaaGreatMem2
import Derived.Deep.RegionHeld3
import Derived.Deep.AppendLies
namespace Go.Proofs.YtocogcgnahbpkaaGreat
open Go.RowKit

theorem le_alloc {w : World} {n : Nat} (h : n ≤ w.heap.size) (o : Obj) : n ≤ (w.alloc o).heap.size := by rw [World.alloc_size]; exact Nat.le_succ_of_le h
theorem drew_below {w w' : World} (h : w.drew.grownBy w' (Value.slice none 0 0).ownBlock) : Below w.heap.size w w' :=
  ⟨h.os, h.tape, h.output, h.size, fun i hi => h.block i hi (by simp [Value.ownBlock])⟩

set_option maxRecDepth 100000 in
set_option maxHeartbeats 4000000 in
theorem copyLog_any (A : Option Addr) (n c : Nat) (ps : List (LE × List Int)) (w : World) (hx : Ents w w.heap.size A ps) (hn : n = ps.length) (hl : ps.length ≤ 100000) :
    Calls Tryz.prog 46 #[.slice A n c] w fun e w' => ∃ v qs, e = .returned v ∧ OEnts w' w.heap.size v qs ∧ qs.map con = ps.map con ∧ Below w.heap.size w w' := by
  subst hn
  go_enter Tryz.func46, Tryz.ntmps46
  go_wp2
  go_loopw [3, 4] (fun l i wr => ∃ (k : Nat) (qs : List (LE × List Int)), i = .int .i64 k ∧ k ≤ ps.length ∧ OEnts wr w.heap.size l qs ∧ qs.map con = (ps.take k).map con ∧ Below w.heap.size w wr) (fun _ i _ => ps.length - (intOf i).toNat)
  case atStart => exact ⟨0, [], rfl, by omega, OEnts.nil, rfl, Below.refl _ _⟩
  case round =>
    obtain ⟨k, qs, rfl, hk, hown, hq, hb⟩ := hrel
    by_cases hlt : k < ps.length
    · have hpk := List.getElem?_eq_getElem hlt
      obtain ⟨ba, o, rfl, hba, c0, c1, c2⟩ := ents_at (hx.below hb) hpk
      obtain ⟨hB, hnl, hlen⟩ := (hx.below hb).each _ (List.getElem_mem hlt)
      have hsz := hb.size
      have hql : qs.length = k := by have := congrArg List.length hq; simp at this; omega
      have HP := Lib.hid hpk
      clear hpk
      generalize ps[k] = p at c0 c1 c2 hB hnl hlen HP
      have hB'' : Row encB 1 wr.drew w.heap.size p.1.A p.2 := hB
      rw [hnl] at c2
      have c0' : wr.drew.cell? ⟨ba, o + k * 3, none⟩ = some (.int .i64 p.1.idx) := c0
      have c1' : wr.drew.cell? ⟨ba, o + k * 3 + 1, none⟩ = some (.int .i64 p.1.term) := c1
      have c2' : wr.drew.cell? ⟨ba, o + k * 3 + 2, none⟩ = some (.slice p.1.A p.2.length p.1.c) := c2
      have hlq1 : ∀ x : LE, ((qs.map (·.1)).length + [x].length) * 40 ≤ 140737488355328 := fun _ => by simp; omega
      have hlq2 : ∀ x : LE, (qs.map (·.1)).length + [x].length ≤ 140737488355328 := fun _ => by simp; omega
      go_upto_region 6 with (fail)
      go_region_held3 (fun w' => w'.cell? ⟨ba, o + k * 3, none⟩ = some (.int .i64 p.1.idx) ∧ w'.cell? ⟨ba, o + k * 3 + 1, none⟩ = some (.int .i64 p.1.term) ∧ w'.cell? ⟨ba, o + k * 3 + 2, none⟩ = some (.slice p.1.A p.2.length p.1.c))
        (first
          | go_keep
          | exact ⟨(hk3.cell (p := ⟨ba, _, none⟩) hba).trans c0, (hk3.cell (p := ⟨ba, _, none⟩) hba).trans c1, (hk3.cell (p := ⟨ba, _, none⟩) hba).trans c2⟩
          | (go_split_ands
             exact ⟨hg1.cell c0' (by simp [Value.ownBlock]), hg1.cell c1' (by simp [Value.ownBlock]), hg1.cell c2' (by simp [Value.ownBlock])⟩))
        (first
          | (refine step_app _ encB 1 (by rfl) _ _ 65 (by rfl) wr.heap.size 5 1 Tryz.underlying65 info5 (by omega) len_B one_B (.slice none 0 0) [] (by rfl) Own.nil w.heap.size p.1.A p.2.length p.1.c p.2 rfl (by rfl) hB'' (by simp; omega) (by simp; omega) (Nat.le_refl _) ?_; intro v1 w1 hown1 hg1 hat1 _; obtain ⟨A1, k1, rfl⟩ := hown1.form; have hO1 := Lib.hid (hown.below (drew_below hg1) (Nat.le_refl _)); have hsz1 : w.heap.size ≤ w1.heap.size := Nat.le_trans hsz hg1.size; have hk1 : Below w.heap.size wr w1 := (drew_below hg1).mono hsz)
          | (refine step_app _ encLE 3 (by rfl) _ _ 46 (by rfl) w.heap.size 67 40 Tryz.underlying46 info67 (by omega) len_LE one_LE _ (qs.map (·.1)) (by rfl) (hO1.out.own.alloc _) (w1.heap.size + 1) (some ⟨w1.heap.size, 0, none⟩) 1 1 [⟨p.1.idx, p.1.term, A1, p.2.length, k1⟩] rfl (by rfl) (row_one_LE _ ⟨p.1.idx, p.1.term, A1, p.2.length, k1⟩ _ rfl) (hlq1 _) (hlq2 _) (le_alloc hsz1 _) ?_; intro v3 w3 hown3 hg3 hat3 _; have hk3 : Below w.heap.size wr w3 := (hk1.alloc hsz1 _).grown hg3 (le_alloc hsz1 _) (fun j hj => (hown.own.lt j hj).1)))
      have hb3 := hb.trans hk3
      have hO := Lib.hid (hO1.out.alloc (.cells #[.int .i64 p.1.idx, .int .i64 p.1.term, .slice A1 p.2.length k1] 67))
      go_wp2
      go_roundw
      case rel =>
        refine ⟨k + 1, qs ++ [(⟨p.1.idx, p.1.term, A1, p.2.length, k1⟩, p.2)], by go_num, by omega, hO.out.app (rs := [(⟨p.1.idx, p.1.term, A1, p.2.length, k1⟩, p.2)]) ?_ hown3 hg3 hat3, take_map_snoc HP.out hq rfl, hb3⟩
        intro q hq
        simp only [List.mem_singleton] at hq
        subst hq
        refine ⟨?_, ?_, hlen⟩
        · exact Own.weaken (Own.alloc (by simpa using hown1) _) hsz
        · cases A1 with
          | none => exact .inl rfl
          | some a1 =>
            right
            intro e
            have h1 := (hown1.lt a1.block rfl).1
            have h2 := (hown.own.lt _ e.symm).2
            omega
      case measure => simp [intOf]; omega
    · have HZ := Lib.hid (show ps.take k = ps from List.take_of_length_le (by omega))
      go_wp2
      go_ret
      exact ⟨_, _, rfl, hown, by rw [hq, HZ.out], hb⟩
end Go.Proofs.YtocogcgnahbpkaaGreat
