/-
  strataref16.SameLog where it says yes; Seat.entry, Seat.last.
-/
import Derived.Test.YtocogcgnahbpkaaGreatW0
import Derived.Test.YtocogcgnahbpkaaGreatMem5
import Derived.Test.YtocogcgnahbpkaaGreatA3
import Derived.Test.YtocogcgnahbpkaaGreatN3
import Derived.Laws.BytesArg
namespace Go.Proofs.YtocogcgnahbpkaaGreat
open Go.RowKit

theorem bytes_str {w : World} {B n c : Nat} {A : Option Addr} {xs : List Int} (h : Bytes w B A xs) (hn : n = xs.length) : (convert 65 9 (.slice A n c)).run Tryz.prog w = .ok (.string (strOfNums xs)) w := by
  subst hn
  rcases h with rfl | ⟨b, o, rfl, _, hc⟩
  · cases A with
    | none => exact run_convert_bytes_nil w 65 5 Tryz.underlying65 Tryz.underlying5 _ _ 9 Tryz.underlying9
    | some a =>
      rw [run_convert_bytes_string w 65 9 5 _ _ c Tryz.underlying65 Tryz.underlying5 Tryz.underlying9, run_bytesToString w a _ c [] (by simpa using run_loadCells_list (P := Tryz.prog) w a [] (by simp))]
      rfl
  · refine run_convert_bytes_arg w 65 5 Tryz.underlying65 Tryz.underlying5 b o _ c xs rfl (fun i hi => ?_) 9 Tryz.underlying9
    have := hc i xs[i] (List.getElem?_eq_getElem hi) 0 _ rfl
    simpa [List.getD, List.getElem?_eq_getElem hi] using this

set_option maxRecDepth 100000 in
set_option maxHeartbeats 4000000 in
theorem sameLog_yes (A B : Option Addr) (n c m d : Nat) (ps qs : List (LE × List Int)) (w : World) (hA : Ents w w.heap.size A ps) (hn : n = ps.length) (hB : Ents w w.heap.size B qs) (hm : m = qs.length) (hl : ps.length ≤ 100000) (h : ps.map con = qs.map con) :
    Calls Tryz.prog 45 #[.slice A n c, .slice B m d] w fun e w' => e = .returned (.bool true) ∧ ∃ k, w' = w.drewN k := by
  have hlen : qs.length = ps.length := by simpa using (congrArg List.length h).symm
  rw [hlen] at hm
  subst hn hm
  have HH := Lib.hid h
  have HL := Lib.hid hlen
  clear h hlen
  go_enter Tryz.func45, Tryz.ntmps45
  go_wp2
  go_loopw [5] (fun i wr => ∃ k nq : Nat, i = .int .i64 k ∧ k ≤ ps.length ∧ wr = w.drewN nq) (fun i _ => ps.length - (intOf i).toNat)
  case atStart => exact ⟨0, 0, rfl, by omega, rfl⟩
  case round =>
    obtain ⟨k, nq, rfl, hk, rfl⟩ := hrel
    by_cases hlt : k < ps.length
    · obtain ⟨p, hpk⟩ : ∃ p, ps[k]? = some p := ⟨_, List.getElem?_eq_getElem hlt⟩
      obtain ⟨q, hqk⟩ : ∃ q, qs[k]? = some q := ⟨_, List.getElem?_eq_getElem (by have := HL.out; omega)⟩
      obtain ⟨ba, oa, rfl, _, c0, c1, c2⟩ := ents_at hA hpk
      obtain ⟨bb, ob, rfl, _, d0, d1, d2⟩ := ents_at hB hqk
      obtain ⟨hB1, hn1, _⟩ := hA.each _ (List.mem_of_getElem? hpk)
      obtain ⟨hB2, hn2, _⟩ := hB.each _ (List.mem_of_getElem? hqk)
      have hcon : con q = con p := by
        have := congrArg (fun l => l[k]?) HH.out
        simp only [List.getElem?_map, hpk, hqk, Option.map_some, Option.some.injEq] at this
        exact this.symm
      simp only [con, E.mk.injEq] at hcon
      obtain ⟨e1, e2, e3⟩ := hcon
      rw [e1] at d0
      rw [e2] at d1
      rw [e3] at hB2 hn2
      have s1 : ∀ j, (convert 65 9 (.slice p.1.A p.1.n p.1.c)).run Tryz.prog (w.drewN j) = .ok (.string (strOfNums p.2)) (w.drewN j) := fun j => bytes_str (B := w.heap.size) (hB1.drewN j) hn1
      have s2 : ∀ j, (convert 65 9 (.slice q.1.A q.1.n q.1.c)).run Tryz.prog (w.drewN j) = .ok (.string (strOfNums p.2)) (w.drewN j) := fun j => bytes_str (B := w.heap.size) (hB2.drewN j) hn2
      clear hA hB hpk hqk hB1 hB2 hn1 hn2 e1 e2 e3
      go_upto_region 6 with (fail)
      go_quiet (fail)
      go_wp2
      go_roundw
      case rel => exact ⟨k + 1, _, by go_num, by omega, by first | rfl | simp only [World.drewN_drewN]⟩
      case measure => simp [intOf]; omega
    · go_wp2
      go_ret
      exact ⟨rfl, _, rfl⟩

set_option maxRecDepth 100000 in
set_option maxHeartbeats 1000000 in
/-- An entry of the disk that is there. -/
theorem entry_yes (_ b1 : Nat) (g : WG) (k : Nat) (q : LE × List Int) (w : World) (hs : w.heap[b1]? = some (.cells (scells g) 52 (0, 0))) (hd : Ents w w.heap.size g.dA g.dl) (hn : g.dn = g.dl.length) (hk : g.dl[k]? = some q) (hl : g.dl.length ≤ 100000) :
    Calls Tryz.prog 18 #[.pointer (some ⟨b1, 0, none⟩), .int .i64 (k + 1)] w fun e w' => e = .returned (.tuple #[encK q, .bool true]) ∧ Below w.heap.size w w' := by
  have hkl : k < g.dl.length := (List.getElem?_eq_some_iff.1 hk).1
  obtain ⟨ba, o, hA, hba, c0, c1, c2⟩ := ents_at hd hk
  have d5 := sc5 hs
  have d7 := sc7 hs
  rw [hn, hA] at d7
  have hlt := block_lt hs
  have w1 : IntKind.i64.wrap ((k : Int) + 1 - 0 - 1) = k := by rw [IntWalk.i64_in _ (by omega)]; omega
  have w2 : IntKind.i64.wrap ((k : Int) - 0) = k := by rw [IntWalk.i64_in _ (by omega)]; omega
  have w3 : IntKind.i64.wrap ((k : Int) + 1 - 1) = k := by rw [IntWalk.i64_in _ (by omega)]; omega
  have w4 : IntKind.i64.wrap ((k : Int) + 1) = (k : Int) + 1 := by rw [IntWalk.i64_in _ (by omega)]
  have hb := (Below.refl w.heap.size w).alloc (Nat.le_refl _) (.cells #[.int .i64 0, .int .i64 0, .slice none 0 0] 67)
  go_enter Tryz.func18, Tryz.ntmps18
  go_wp2
  try simp only [Exit.inBlock, Exit.then]
  refine bodyPost_ret (v := .tuple #[encK q, .bool true]) ?_ rfl ⟨rfl, (Below.refl w.heap.size w).alloc (Nat.le_refl _) _⟩
  exact results_cell_tmp_row rfl _ _ w.heap.size 67 _ (0, 0) _ _ rfl rfl (World.alloc_at w _) Tryz.underlying67 rfl (by kernel_rfl)

set_option maxRecDepth 100000 in
set_option maxHeartbeats 1000000 in
theorem last_any (b1 : Nat) (g : WG) (w : World) (hs : w.heap[b1]? = some (.cells (scells g) 52 (0, 0))) (hd : Ents w w.heap.size g.dA g.dl) (hn : g.dn = g.dl.length) (hl : g.dl.length ≤ 100000) :
    Calls Tryz.prog 30 #[.pointer (some ⟨b1, 0, none⟩)] w fun e w' => (∃ t, e = .returned (.tuple #[.int .i64 g.dl.length, .int .i64 t])) ∧ ∃ n, w' = w.drewN n := by
  have d5 := sc5 hs
  have d6 := sc6 hs
  have d7 := sc7 hs
  rw [hn] at d7
  have hlt := block_lt hs
  by_cases h0 : g.dl.length = 0
  · have w0 : ((g.dl.length : Int) == 0) = true := by simpa using h0
    go_enter Tryz.func30, Tryz.ntmps30
    go_wp2_with (fail)
    go_quiet (fail)
    go_wp2
    go_ret2
    exact ⟨⟨0, by rw [h0]; rfl⟩, _, rfl⟩
  · have w0 : ((g.dl.length : Int) == 0) = false := by simpa using h0
    obtain ⟨q, hk⟩ : ∃ q, g.dl[g.dl.length - 1]? = some q := ⟨_, List.getElem?_eq_getElem (by omega)⟩
    obtain ⟨ba, o, hA, hba, c0, c1, c2⟩ := ents_at hd hk
    rw [hA] at d7
    have w1 : IntKind.i64.wrap ((g.dl.length : Int) - 1) = ((g.dl.length - 1 : Nat) : Int) := by rw [IntWalk.i64_in _ (by omega)]; omega
    have w2 : IntKind.i64.wrap (0 + (g.dl.length : Int)) = (g.dl.length : Int) := by rw [IntWalk.i64_in _ (by omega)]; omega
    have w3 : IntKind.i64.wrap ((g.dl.length : Int)) = (g.dl.length : Int) := by rw [IntWalk.i64_in _ (by omega)]
    have w4 : g.dl.length - 1 < g.dl.length := by omega
    clear c0 c2 hk hd
    generalize g.dl.length - 1 = j at w1 w4 c1
    go_enter Tryz.func30, Tryz.ntmps30
    go_wp2_with (fail)
    go_quiet (fail)
    go_wp2
    go_ret2
    exact ⟨⟨_, rfl⟩, _, rfl⟩
end Go.Proofs.YtocogcgnahbpkaaGreat
