/-
  manifest on a fresh disk: asked, Load, Check, Sweep.
-/
import Derived.Test.YtjoaldaldcpfeaaGreatDoorC6
import Derived.Laws.ResultCell
import Derived.Laws.Rows
namespace Go.Proofs.YtjoaldaldcpfeaaGreatDoor
open Go.RowKit

/-- A prefix of files' names. -/
structure PreOK (p : ByteArray) : Prop where
  most : p.size ≤ 8
  chars : ∀ k, k < p.size → charOK (chr p k)

theorem chr_app (p c : ByteArray) (k : Nat) : chr (p ++ c) k = if k < p.size then chr p k else chr c (k - p.size) := by
  obtain ⟨⟨l⟩⟩ := p
  obtain ⟨⟨m⟩⟩ := c
  rw [ByteArray.mk_append_mk]
  unfold chr
  simp only [ByteArray.size_mk', List.size_toArray, List.getElem?_append]
  split <;> rfl
theorem PreOK.name {p c : ByteArray} (h : PreOK p) (h1 : 1 ≤ c.size) (h2 : c.size ≤ 40) (hc : ∀ k, k < c.size → charOK (chr c k)) : PathOK (p ++ c) 64 where
  one := by rw [ByteArray.size_append']; omega
  most := by have := h.most; rw [ByteArray.size_append']; omega
  chars k hk := by
    rw [ByteArray.size_append'] at hk
    rw [chr_app]
    split
    case isTrue g => exact h.chars k g
    case isFalse g => exact hc _ (by omega)
theorem PreOK.cat {p c : ByteArray} (h : PreOK p) (h2 : c.size ≤ 40) (W : World) : (Op.stringOp .add p c).run Tryz.prog W = .ok (.string (p ++ c)) W := run_string_add_sum W p c (by have := h.most; omega)

instance (c : Int) : Decidable (charOK c) := by unfold charOK markC; infer_instance

set_option maxRecDepth 100000 in
theorem asked_ok (b m : Nat) (cap : Int) (p : ByteArray) (w : World) (h : DiskAt w b cap m) (hp : PreOK p) : Calls Tryz.prog 91 #[.pointer (some ⟨b, 0, none⟩), .string p] w fun e w' => e = .returned (.int .i64 0) ∧ w' = w := by
  have hcat := hp.cat (c := { data := #[77, 65, 78, 73, 70, 69, 83, 84, 46, 84, 77, 80] }) (by decide)
  have HN := Lib.hid (hp.name (c := { data := #[77, 65, 78, 73, 70, 69, 83, 84, 46, 84, 77, 80] }) (by decide) (by decide) (by decide))
  have h32 : ¬ (32 < (p.size : Int)) := by have := hp.most; omega
  have H := Lib.hid h
  clear h hp
  go_enter Tryz.func91, Tryz.ntmps91
  go_wp2_with (fail)
  refine (size_none b m cap _ w H.out HN.out).mono ?_
  rintro e w1 ⟨rfl, hw1⟩
  obtain rfl := hw1.symm
  go_wp2_with (fail)
  go_ret
  exact ⟨rfl, rfl⟩

theorem setCell_id {w : World} {b o : Nat} {v : Value} (h : w.cell? ⟨b, o, none⟩ = some v) : w.setCell ⟨b, o, none⟩ v = w := by
  have hh : (w.setCell ⟨b, o, none⟩ v).heap = w.heap := by
    simp only [World.setCell]
    apply Array.ext_getElem?
    intro i
    rw [Array.getElem?_modify]
    split
    · next hi =>
      subst hi
      unfold World.cell? at h
      simp only [] at h
      cases hb : w.heap[b]? with
      | none => rfl
      | some ob =>
        rw [hb] at h
        cases ob with
        | cells c t fz =>
          simp only [Option.isSome_none, Bool.false_eq_true, if_false] at h ⊢
          have hc : c.setIfInBounds o v = c := by
            apply Array.ext_getElem?
            intro j
            rw [Array.getElem?_setIfInBounds]
            split
            · next hj => subst hj; split <;> simp_all
            · rfl
          simp [hc]
        | _ => rfl
    · rfl
  calc w.setCell ⟨b, o, none⟩ v = { w with heap := (w.setCell ⟨b, o, none⟩ v).heap } := rfl
    _ = w := by rw [hh]

theorem setCell_new {w : World} {x k : Nat} {arr : Array Value} {t : TypeId} {v : Value} (hx : x = w.heap.size) : (w.alloc (.cells arr t)).setCell ⟨x, k, none⟩ v = w.alloc (.cells (arr.setIfInBounds k v) t) := by
  subst hx
  have hh : ((w.alloc (.cells arr t)).setCell ⟨w.heap.size, k, none⟩ v).heap = (w.alloc (.cells (arr.setIfInBounds k v) t)).heap := by
    simp only [World.setCell, World.alloc]
    apply Array.ext_getElem?
    intro i
    rw [Array.getElem?_modify, Array.getElem?_push, Array.getElem?_push]
    by_cases h : i = w.heap.size
    · subst h; simp
    · rw [if_neg (Ne.symm h), if_neg h, if_neg h]
  calc (w.alloc (.cells arr t)).setCell ⟨w.heap.size, k, none⟩ v = { w.alloc (.cells arr t) with heap := ((w.alloc (.cells arr t)).setCell ⟨w.heap.size, k, none⟩ v).heap } := rfl
    _ = { w.alloc (.cells arr t) with heap := (w.alloc (.cells (arr.setIfInBounds k v) t)).heap } := by rw [hh]
    _ = w.alloc (.cells (arr.setIfInBounds k v) t) := rfl

/-! ### results that lie in a block -/
theorem results_cell_tmp2_row {P : Program} {fn : Func} {p u v : Tmp} {ty : TypeId} (h : fn.results = #[.cell p ty, .tmp u, .tmp v]) (tmps : Array Value) (w : World) (g : Nat) (t : TypeId) (cs : Array Value) (fr : Nat × Nat) (d : TypeDesc) (x y : Value)
    (hp : tmps.getD p undef = .pointer (some ⟨g, 0, none⟩)) (hx : tmps.getD u undef = x) (hy : tmps.getD v undef = y) (hg : w.heap[g]? = some (.cells cs t fr))
    (hu : P.underlying ty = some d) (hd : (match d with | .struct _ | .array _ _ => true | _ => false) = true) (hi : (P.info? ty).map (·.size) = some cs.size) :
    (results fn tmps).run P w = .ok (.tuple #[.agg cs, x, y]) w := by
  have hp' : tmps[p]?.getD undef = .pointer (some ⟨g, 0, none⟩) := by simpa using hp
  have hx' : tmps[u]?.getD undef = x := by simpa using hx
  have hy' : tmps[v]?.getD undef = y := by simpa using hy
  simp [results, h, hp', hx', hy', Result.andThen, asAddr, run_loadVar_row w g t ty cs fr d hg hu hd hi]
theorem results_cell_tmp3_row {P : Program} {fn : Func} {p u v v' : Tmp} {ty : TypeId} (h : fn.results = #[.cell p ty, .tmp u, .tmp v, .tmp v']) (tmps : Array Value) (w : World) (g : Nat) (t : TypeId) (cs : Array Value) (fr : Nat × Nat) (d : TypeDesc) (x y z : Value)
    (hp : tmps.getD p undef = .pointer (some ⟨g, 0, none⟩)) (hx : tmps.getD u undef = x) (hy : tmps.getD v undef = y) (hz : tmps.getD v' undef = z) (hg : w.heap[g]? = some (.cells cs t fr))
    (hu : P.underlying ty = some d) (hd : (match d with | .struct _ | .array _ _ => true | _ => false) = true) (hi : (P.info? ty).map (·.size) = some cs.size) :
    (results fn tmps).run P w = .ok (.tuple #[.agg cs, x, y, z]) w := by
  have hp' : tmps[p]?.getD undef = .pointer (some ⟨g, 0, none⟩) := by simpa using hp
  have hx' : tmps[u]?.getD undef = x := by simpa using hx
  have hy' : tmps[v]?.getD undef = y := by simpa using hy
  have hz' : tmps[v']?.getD undef = z := by simpa using hz
  simp [results, h, hp', hx', hy', hz', Result.andThen, asAddr, run_loadVar_row w g t ty cs fr d hg hu hd hi]

theorem cells7 {w : World} {b : Nat} {a0 a1 a2 a3 a4 a5 a6 : Value} {t : TypeId} (h : w.heap[b]? = some (.cells #[a0, a1, a2, a3, a4, a5, a6] t (0, 0))) :
    w.cell? ⟨b, 0, none⟩ = some a0 ∧ w.cell? ⟨b, 1, none⟩ = some a1 ∧ w.cell? ⟨b, 2, none⟩ = some a2 ∧ w.cell? ⟨b, 3, none⟩ = some a3 ∧ w.cell? ⟨b, 4, none⟩ = some a4 ∧ w.cell? ⟨b, 5, none⟩ = some a5 ∧ w.cell? ⟨b, 6, none⟩ = some a6 :=
  ⟨cell_block h 0 _ rfl, cell_block h 1 _ rfl, cell_block h 2 _ rfl, cell_block h 3 _ rfl, cell_block h 4 _ rfl, cell_block h 5 _ rfl, cell_block h 6 _ rfl⟩

set_option maxRecDepth 100000 in
set_option maxHeartbeats 1000000 in
theorem load_none (b m : Nat) (cap : Int) (p : ByteArray) (w : World) (h : DiskAt w b cap m) (hp : PreOK p) : Calls Tryz.prog 57 #[.pointer (some ⟨b, 0, none⟩), .string p] w
    fun e w' => e = .returned (.tuple #[.agg #[.int .i64 0, .int .i64 0, .int .i64 0, .int .i64 0, .int .i64 0, .slice none 0 0, .slice none 0 0], .bool false, .int .i64 0]) ∧ Below w.heap.size w w' := by
  have hcat := hp.cat (c := { data := #[77, 65, 78, 73, 70, 69, 83, 84] }) (by decide)
  have HN := Lib.hid (hp.name (c := { data := #[77, 65, 78, 73, 70, 69, 83, 84] }) (by decide) (by decide) (by decide))
  have HP := Lib.hid hp
  have hbx := World.alloc_at w (.cells #[.int .i64 0, .int .i64 0, .int .i64 0, .int .i64 0, .int .i64 0, .slice none 0 0, .slice none 0 0] 141)
  have hb := below_alloc1 w (.cells #[.int .i64 0, .int .i64 0, .int .i64 0, .int .i64 0, .int .i64 0, .slice none 0 0, .slice none 0 0] 141)
  have H := Lib.hid (h.below hb)
  have HB := Lib.hid hb
  have HX := Lib.hid hbx
  clear h hp hb hbx
  go_enter Tryz.func57, Tryz.ntmps57
  go_wp2_with (fail)
  generalize w.alloc (.cells #[.int .i64 0, .int .i64 0, .int .i64 0, .int .i64 0, .int .i64 0, .slice none 0 0, .slice none 0 0] 141) = W at H HB HX ⊢
  refine (asked_ok b m cap p W H.out HP.out).mono ?_
  rintro e w1 ⟨rfl, hw1⟩
  obtain rfl : W = w1 := hw1.symm
  go_wp2_with (fail)
  refine (size_none b m cap _ W H.out HN.out).mono ?_
  rintro e w1 ⟨rfl, hw1⟩
  obtain rfl : W = w1 := hw1.symm
  obtain ⟨c0, c1, c2, c3, c4, c5, c6⟩ := cells7 HX.out
  have hf := frozen_block HX.out
  go_wp2_with (fail)
  rw [setCell_id c0, setCell_id c1, setCell_id c2, setCell_id c3, setCell_id c4, setCell_id c5, setCell_id c6]
  refine bodyPost_ret (results_cell_tmp2_row rfl _ _ w.heap.size 141 _ (0, 0) _ _ _ rfl rfl rfl HX.out Tryz.underlying141 rfl (by kernel_rfl)) rfl ?_
  exact ⟨rfl, HB.out⟩

set_option maxRecDepth 100000 in
set_option maxHeartbeats 1000000 in
theorem mcheck_zero (w : World) : Calls Tryz.prog 101 #[.agg #[.int .i64 0, .int .i64 0, .int .i64 0, .int .i64 0, .int .i64 0, .slice none 0 0, .slice none 0 0]] w fun e w' => e = .returned (.int .i64 101) ∧ Below w.heap.size w w' := by
  have hb := below_alloc1 w (.cells #[.int .i64 0, .int .i64 0, .int .i64 0, .int .i64 0, .int .i64 0, .slice none 0 0, .slice none 0 0] 141)
  go_enter Tryz.func101, Tryz.ntmps101
  go_wp2_with (fail)
  refine (mwithin_any _ _ _ _).mono ?_
  rintro e w1 ⟨rfl, hw1⟩
  obtain rfl := hw1.symm
  go_wp2_with (fail)
  go_ret
  exact ⟨rfl, hb⟩

set_option maxRecDepth 100000 in
set_option maxHeartbeats 1000000 in
theorem sweep_none (b m : Nat) (cap : Int) (p : ByteArray) (w : World) (h : DiskAt w b cap m) (hp : PreOK p) : Calls Tryz.prog 64 #[.pointer (some ⟨b, 0, none⟩), .string p, .agg #[.int .i64 0, .int .i64 0, .int .i64 0, .int .i64 0, .int .i64 0, .slice none 0 0, .slice none 0 0]] w
    fun e w' => e = .returned (.tuple #[.slice none 0 0, .int .i64 0]) ∧ Below w.heap.size w w' := by
  have HP := Lib.hid hp
  have hbx := World.alloc_at w (.cells #[.int .i64 0, .int .i64 0, .int .i64 0, .int .i64 0, .int .i64 0, .slice none 0 0, .slice none 0 0] 141)
  have hb := below_alloc1 w (.cells #[.int .i64 0, .int .i64 0, .int .i64 0, .int .i64 0, .int .i64 0, .slice none 0 0, .slice none 0 0] 141)
  have H := Lib.hid (h.below hb)
  have HB := Lib.hid hb
  have HX := Lib.hid hbx
  clear h hp hb hbx
  go_enter Tryz.func64, Tryz.ntmps64
  go_wp2_with (fail)
  obtain ⟨x, hx⟩ : ∃ x, x = w.heap.size := ⟨_, rfl⟩
  rw [← hx] at HX
  rw [← hx]
  generalize w.alloc (.cells #[.int .i64 0, .int .i64 0, .int .i64 0, .int .i64 0, .int .i64 0, .slice none 0 0, .slice none 0 0] 141) = W at H HB HX ⊢
  clear hx
  refine (asked_ok b m cap p W H.out HP.out).mono ?_
  rintro e w1 ⟨rfl, hw1⟩
  obtain rfl : W = w1 := hw1.symm
  obtain ⟨c0, c1, c2, c3, c4, c5, c6⟩ := cells7 HX.out
  have hl := block_lt HX.out
  go_wp2_with (fail)
  refine (mcheck_zero _).mono ?_
  rintro e w1 ⟨rfl, hb1⟩
  have HX1 := Lib.hid ((hb1.block _ hl).trans HX.out)
  have H1 := Lib.hid (H.out.below hb1)
  have HB1 := Lib.hid (HB.out.trans (hb1.mono HB.out.size))
  clear H HB HX hb1 c0 c1 c2 c3 c4 c5 c6 hl
  obtain ⟨c0, c1, c2, c3, c4, c5, c6⟩ := cells7 HX1.out
  have hl := block_lt HX1.out
  go_wp2_with (fail)
  rw [run_makeMap]
  have HX := Lib.hid (block_alloc HX1.out (.map #[] 0))
  have H := Lib.hid (H1.out.below (below_alloc1 _ (.map #[] 0)))
  have HB := Lib.hid (HB1.out.alloc HB1.out.size (.map #[] 0))
  clear H1 HB1 HX1 c0 c1 c2 c3 c4 c5 c6 hl
  generalize w1.alloc (.map #[] 0) = W at H HB HX ⊢
  obtain ⟨c0, c1, c2, c3, c4, c5, c6⟩ := cells7 HX.out
  have hl := block_lt HX.out
  go_wp2_with (fail)
  go_loopw [74] (fun i wr => i = .int .i64 0 ∧ wr = W) (fun _ _ => 0)
  case atStart => exact ⟨rfl, rfl⟩
  case round =>
    obtain ⟨rfl, rfl⟩ := hrel
    go_wp2_with (fail)
    refine (list_none b m cap p _ H.out).mono ?_
    rintro e w2 ⟨rfl, hb2⟩
    have HB2 := Lib.hid (HB.out.trans (hb2.mono HB.out.size))
    clear H HB HX hb2 c0 c1 c2 c3 c4 c5 c6 hl
    go_wp2_with (fail)
    go_loopw [14, 88] (fun l i wr => l = .slice none 0 0 ∧ i = .int .i64 0 ∧ wr = w2) (fun _ _ _ => 0)
    case atStart => exact ⟨rfl, rfl, rfl⟩
    case round =>
      obtain ⟨rfl, rfl, rfl⟩ := hrel
      go_wp2_with (fail)
      go_ret2
      exact ⟨rfl, HB2.out⟩
end Go.Proofs.YtjoaldaldcpfeaaGreatDoor
