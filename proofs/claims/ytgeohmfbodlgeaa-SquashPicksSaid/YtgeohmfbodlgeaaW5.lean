/-
  slices.Clone and slices.SortFunc at lists of runs: the clone is sorted by bytes, then by number.
-/
import Derived.Test.YtgeohmfbodlgeaaLaid
import Derived.Test.YtgeohmfbodlgeaaW4
namespace Go.Proofs.Ytgeohmfbodlgeaa
open Go.RowKit Go.Sort Go.Lib

/-- A run whose number is one of a tree's. -/
structure RMp where
  x : RM
  h1 : 1 ≤ x.num
  h2 : x.num ≤ 9223372036854775807
instance : Inhabited RMp := ⟨⟨⟨1, 0, 0, 0, 0, 0, none, 0, 0, none, 0, 0⟩, by decide, by decide⟩⟩
def encP (p : RMp) : List Value := encRM p.x
def cfP (a b : RMp) : Int := if a.x.bytes < b.x.bytes then -1 else if b.x.bytes < a.x.bytes then 1 else a.x.num - b.x.num

set_option maxHeartbeats 1000000 in
theorem closure_any (a b : RMp) (W : World) : Calls Try.prog 14 #[.agg (encP a).toArray, .agg (encP b).toArray] W fun e w' => e = .returned (.int .i64 (cfP a b)) ∧ ∃ q os', w' = grow (W.drewN q) os' := by
  obtain ⟨a, ha1, ha2⟩ := a
  obtain ⟨b, hb1, hb2⟩ := b
  show Calls Try.prog 14 #[.agg #[.int .i64 a.num, .int .i64 a.count, .int .i64 a.index, .int .i64 a.low, .int .i64 a.clock, .int .i64 a.bytes, .slice a.fa a.fl a.fc, .slice a.la a.ll a.lc], .agg #[.int .i64 b.num, .int .i64 b.count, .int .i64 b.index, .int .i64 b.low, .int .i64 b.clock, .int .i64 b.bytes, .slice b.fa b.fl b.fc, .slice b.la b.ll b.lc]] W _
  have fin : ∀ o1 o2 : Obj, ∃ q os', (W.alloc o1).alloc o2 = grow (W.drewN q) os' := fun o1 o2 => ⟨0, _, by rw [alloc_eq_grow, alloc_eq_grow, grow_grow]; rfl⟩
  have Hfin := Lib.hid fin
  clear fin
  unfold cfP
  simp only
  by_cases h1 : a.bytes < b.bytes
  · have g1 : (a.bytes != b.bytes) = true := by rw [bne_iff_ne]; omega
    rw [if_pos h1]
    go_enter Try.func14, Try.ntmps14
    go_wp2
    go_ret
    exact ⟨rfl, Hfin.out _ _⟩
  · rw [if_neg h1]
    by_cases h2 : b.bytes < a.bytes
    · have g1 : (a.bytes != b.bytes) = true := by rw [bne_iff_ne]; omega
      rw [if_pos h2]
      go_enter Try.func14, Try.ntmps14
      go_wp2
      go_ret
      exact ⟨rfl, Hfin.out _ _⟩
    · have g1 : (a.bytes != b.bytes) = false := by rw [bne_eq_false_iff_eq]; omega
      rw [if_neg h2]
      go_enter Try.func14, Try.ntmps14
      go_wp2
      go_ret
      exact ⟨rfl, Hfin.out _ _⟩

theorem cmpLays (blk off size : Nat) (w : World) : CmpLays Try.prog 14 #[] encP 8 cfP blk off size w := fun _ _ _ _ x y => closure_any x y _

/-- 'the first is less' -/
def ltP (a b : RMp) : Bool := decide (a.x.bytes < b.x.bytes) || (decide (a.x.bytes = b.x.bytes) && decide (a.x.num < b.x.num))
theorem lt_cf (a b : RMp) : ltOf cfP a b = ltP a b := by
  unfold ltOf cfP ltP
  by_cases h1 : a.x.bytes < b.x.bytes
  · simp [h1]
  · by_cases h2 : b.x.bytes < a.x.bytes
    · have : ¬ a.x.bytes = b.x.bytes := by omega
      simp [h1, h2, this]
    · have : a.x.bytes = b.x.bytes := by omega
      simp [this]
      omega
theorem swoP : SWO (ltOf cfP) where
  irrefl x := by rw [lt_cf]; simp [ltP]
  trans x y z h1 h2 := by rw [lt_cf] at *; simp [ltP] at *; omega
  ntrans x y z h1 h2 := by rw [lt_cf] at *; simp [ltP] at *; omega

/-! The world behind the sort -/
theorem heap_mapBlock_other (w : World) (blk k : Nat) (f : Array Value → Array Value) (h : k ≠ blk) : (mapBlock w blk f).heap[k]? = w.heap[k]? := by
  simp [mapBlock, Array.getElem?_modify, Ne.symm h]
theorem below_sort {B : Nat} {w : World} {blk off m : Nat} {d : Array RMp} {os : Array Obj} (hB : B ≤ blk) (hb : B ≤ w.heap.size) : RowKit.Below B w (sortWorldK encP 8 w blk off m d os) := by
  refine ⟨rfl, rfl, rfl, ?_, fun k hk => ?_⟩
  · unfold sortWorldK; rw [size_grow]; unfold putRowK putRow mapBlock; simp
  · unfold sortWorldK
    rw [heap_grow_old _ _ (by unfold putRowK putRow mapBlock; simp; show k < w.heap.size; omega)]
    unfold putRowK putRow
    rw [heap_mapBlock_other _ _ _ _ (by omega)]
    rfl

/-! A list of runs as an array of runs with good numbers -/
def toP : (xs : List RM) → (∀ x ∈ xs, 1 ≤ x.num ∧ x.num ≤ 9223372036854775807) → List RMp
  | [], _ => []
  | x :: r, h => ⟨x, (h x (by simp)).1, (h x (by simp)).2⟩ :: toP r fun y hy => h y (by simp [hy])
theorem toP_map : ∀ (xs : List RM) (h), (toP xs h).map (·.x) = xs
  | [], _ => rfl
  | x :: r, h => by rw [toP, List.map_cons, toP_map r]
theorem toP_len (xs : List RM) (h) : (toP xs h).length = xs.length := by
  have := congrArg List.length (toP_map xs h)
  rwa [List.length_map] at this

theorem enc_map (l : List RMp) : l.flatMap encP = (l.map (·.x)).flatMap encRM := by
  induction l with
  | nil => rfl
  | cons a r ih => rw [List.flatMap_cons, List.map_cons, List.flatMap_cons, ih]; rfl

/-- A list in order: what comes later is not before. -/
def Sorted (l : List RM) : Prop := l.Pairwise fun a b => before b a = false

set_option maxHeartbeats 1000000 in
theorem sort_any (g c : Nat) (xs : List RM) (w : World) (base : Nat) (h : ∀ x ∈ xs, 1 ≤ x.num ∧ x.num ≤ 9223372036854775807) (hown : Own encRM 8 31 w base (.slice (some ⟨g, 0, none⟩) xs.length c) xs) (hn : xs.length ≤ 100) (hbase : base ≤ w.heap.size) :
    Calls Try.prog 13 #[.slice (some ⟨g, 0, none⟩) xs.length c, .func (.func 14) #[] #[]] w fun e w' => e = .returned (.tuple #[]) ∧ ∃ ys : List RM, ys.Perm xs ∧ Sorted ys ∧ Runs w' w'.heap.size (some ⟨g, 0, none⟩) ys ∧ RowKit.Below base w w' := by
  have hlt := hown.lt g rfl
  have hform := hown.2
  have hd : (toP xs h).toArray.size = xs.length := by simp [toP_len]
  have hH : HoldsK encP 8 w g 0 (toP xs h).toArray := by
    intro j hj
    rw [size_flatK, hd] at hj
    have hk : j / 8 < xs.length := by omega
    have hgetd : ((toP xs h).toArray[j / 8]!).x = xs[j / 8] := by
      have h1 : j / 8 < (toP xs h).length := by rw [toP_len]; exact hk
      have : ((toP xs h).map (·.x))[j / 8]? = some xs[j / 8] := by rw [toP_map]; exact List.getElem?_eq_getElem hk
      rw [List.getElem?_map, List.getElem?_eq_getElem h1] at this
      simp only [Option.map_some, Option.some.injEq] at this
      rw [← this, getElem!_pos _ _ (by simpa using h1)]
      simp
    rw [get_flatK _ _ _ _ (by rw [hd]; exact hj)]
    rcases hform with ⟨h1, _⟩ | ⟨g', cap, cur, hv, _, hg, h1, h2, h3, h4⟩
    · cases h1
    · injection hv with hv _ _
      injection hv with hv
      injection hv with hv
      subst hv
      have hj8 : j = j / 8 * 8 + j % 8 := by omega
      have hf := flat_at len_RM xs (j / 8) (j % 8) _ (List.getElem?_eq_getElem hk) (by omega)
      have hcell : w.cell? ⟨g, j, none⟩ = some ((encRM xs[j / 8])[j % 8]!) := by
        have h5 : (encRM xs[j / 8])[j % 8]? = some ((encRM xs[j / 8])[j % 8]!) := by
          have : j % 8 < (encRM xs[j / 8]).length := by rw [len_RM]; omega
          rw [List.getElem?_eq_getElem this, getElem!_pos (encRM xs[j / 8]) _ this]
        rw [h5, ← hj8] at hf
        have := World.ownsRow.cells hown (g := g) rfl _ _ hf
        rw [Addr.add_lit] at this
        simpa using this
      refine ⟨?_, ?_⟩
      · rw [Nat.zero_add, hcell]
        show some _ = some ((encRM ((toP xs h).toArray[j / 8]!).x)[j % 8]!)
        rw [hgetd]
      · simp [World.frozen?, hg]
  have hcon := AnyQ.slices_SortFunc (α := RMp) Try.sortRM 8 Try.isAgg31 Try.sizeOf31 encP (fun _ => rfl) (fun x v hv => one_RM x.x v hv) cfP swoP 14 #[] g 0 c (toP xs h).toArray w (enters_of Try.func14 (by kernel_rfl) rfl) (cmpLays g 0 _ w) hH hlt.2 (by rw [hd]; omega)
  rw [hd] at hcon
  refine hcon.mono ?_
  rintro e w' ⟨rfl, d', n, os, hp, hs, rfl⟩
  refine ⟨rfl, d'.toList.map (·.x), ?_, ?_, ?_, below_sort hlt.1 hbase⟩
  · obtain ⟨p1, _, p3⟩ := hp
    have e1 : d'.extract 0 xs.length = d' := by rw [← hd, ← p1]; exact Array.extract_size
    rw [e1] at p3
    have e2 : ((toP xs h).toArray.extract 0 xs.length) = (toP xs h).toArray := by rw [← hd]; exact Array.extract_size
    rw [e2] at p3
    have := p3.map (·.x)
    rwa [List.toList_toArray, toP_map] at this
  · unfold Sorted
    rw [List.pairwise_iff_getElem]
    intro i j hi hj hij
    have hsz : d'.size = xs.length := hp.1.trans hd
    simp only [List.length_map, Array.length_toList] at hi hj
    have := hs i j (Nat.zero_le _) hij (by omega)
    rw [lt_cf, getElem!_pos d' j hj, getElem!_pos d' i hi] at this
    simpa [before, ltP] using this
  · have hHs := holdsK_sortWorldK_c encP 8 w g 0 (toP xs h).toArray d' n os hH hlt.2 hp.1
    refine .inr ⟨g, 0, rfl, Nat.lt_of_lt_of_le hlt.2 (size_sortWorldK_c encP 8 w g 0 n d' os), fun k x hk j v hj => ?_⟩
    have hj8 : j < 8 := by rw [← len_RM x]; exact (List.getElem?_eq_some_iff.1 hj).1
    rw [List.getElem?_map] at hk
    have hkd : k < d'.size := by
      rcases Nat.lt_or_ge k d'.size with h | h
      · exact h
      · rw [List.getElem?_eq_none (by simpa using h)] at hk; cases hk
    have hc := (hHs.cell hkd hj8).1
    rw [hc]
    rw [List.getElem?_eq_getElem (by simpa using hkd)] at hk
    simp only [Option.map_some, Option.some.injEq, Array.getElem_toList] at hk
    rw [getElem!_pos d' k hkd]
    show some ((encRM d'[k].x)[j]!) = some v
    rw [hk]
    obtain ⟨h1, h2⟩ := List.getElem?_eq_some_iff.1 hj
    rw [getElem!_pos (encRM x) _ h1, h2]
end Go.Proofs.Ytgeohmfbodlgeaa
