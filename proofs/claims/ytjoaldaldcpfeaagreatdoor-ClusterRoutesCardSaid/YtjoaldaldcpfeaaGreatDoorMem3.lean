/-
  Footprints ('Chg F w w'': of what was there only blocks of F have turned); maps as lists of pairs in the order of insertion.
-/
import Derived.Test.YtjoaldaldcpfeaaGreatDoorMem2
import Derived.Maps.RangeWalk
namespace Go.Proofs.YtjoaldaldcpfeaaGreatDoor
open Go.RowKit

theorem World.alloc_at (w : World) (o : Obj) : (w.alloc o).heap[w.heap.size]? = some o := by
  unfold World.alloc; simp
theorem World.alloc_size (w : World) (o : Obj) : (w.alloc o).heap.size = w.heap.size + 1 := by
  simp
theorem frozen_block {w : World} {b : Nat} {arr : Array Value} {t : TypeId} (h : w.heap[b]? = some (.cells arr t (0, 0))) (o : Nat) : w.frozen? ⟨b, o, none⟩ = false := by
  simp [World.frozen?, h]
theorem cell_block {w : World} {b : Nat} {arr : Array Value} {t : TypeId} (h : w.heap[b]? = some (.cells arr t (0, 0))) (o : Nat) (v : Value) (hv : arr[o]? = some v) : w.cell? ⟨b, o, none⟩ = some v := by
  simp [World.cell?, h, hv]

theorem below_alloc1 (w : World) (o : Obj) : Below w.heap.size w (w.alloc o) := (Below.refl _ _).alloc (Nat.le_refl _) o

/-! ### footprints -/
structure Chg (F : Nat → Prop) (w w' : World) : Prop where
  os : w'.os = w.os
  tape : w'.tape = w.tape
  output : w'.output = w.output
  size : w.heap.size ≤ w'.heap.size
  block : ∀ k, k < w.heap.size → ¬ F k → w'.heap[k]? = w.heap[k]?

section
variable {F G : Nat → Prop} {w w' a b c : World}
theorem Chg.refl : Chg F w w := ⟨rfl, rfl, rfl, Nat.le_refl _, fun _ _ _ => rfl⟩
theorem Chg.trans2 (h : Chg F a b) (k : Chg G b c) (hs : ∀ i, G i → F i ∨ a.heap.size ≤ i) : Chg F a c :=
  ⟨k.os.trans h.os, k.tape.trans h.tape, k.output.trans h.output, Nat.le_trans h.size k.size, fun i hi hn =>
    (k.block i (Nat.lt_of_lt_of_le hi h.size) (fun hg => by rcases hs i hg with h1 | h1; exact hn h1; omega)).trans (h.block i hi hn)⟩
theorem Chg.trans (h : Chg F a b) (k : Chg F b c) : Chg F a c := h.trans2 k fun _ h => .inl h
theorem Chg.mono (h : Chg F a b) (hs : ∀ i, F i → G i ∨ a.heap.size ≤ i) : Chg G a b := ⟨h.os, h.tape, h.output, h.size, fun i hi hn => h.block i hi fun hf => by rcases hs i hf with h1 | h1; exact hn h1; omega⟩
theorem Chg.drewN (h : Chg F a b) (n : Nat) : Chg F a (b.drewN n) := ⟨h.os, h.tape, h.output, h.size, h.block⟩
theorem Chg.drew (h : Chg F a b) : Chg F a b.drew := ⟨h.os, h.tape, h.output, h.size, h.block⟩
theorem Chg.alloc (h : Chg F a b) (o : Obj) : Chg F a (b.alloc o) :=
  ⟨h.os, h.tape, h.output, by have := h.size; simp; omega, fun i hi hn => (Below.heap_alloc _ _ _ (by have := h.size; omega)).trans (h.block i hi hn)⟩
theorem Chg.setCell (h : Chg F a b) {p : Addr} (hp : F p.block ∨ a.heap.size ≤ p.block) (u : Value) : Chg F a (b.setCell p u) :=
  ⟨h.os, h.tape, h.output, by have := h.size; simp [World.setCell]; omega, fun i hi hn => (Below.heap_setCell _ _ _ _ (fun e => by subst e; rcases hp with h1 | h1; exact hn h1; omega)).trans (h.block i hi hn)⟩
theorem Chg.grown {row : Option Nat} (h : Chg F a b) (hg : b.grownBy c row) (hr : ∀ k, row = some k → F k ∨ a.heap.size ≤ k) : Chg F a c :=
  ⟨hg.os.trans h.os, hg.tape.trans h.tape, hg.output.trans h.output, Nat.le_trans h.size hg.size, fun i hi hn => (hg.block i (Nat.lt_of_lt_of_le hi h.size) (fun e => by rcases hr i e.symm with h1 | h1; exact hn h1; omega)).trans (h.block i hi hn)⟩
theorem Chg.belowN (h : Chg F a b) {B : Nat} (hb : Below B b c) (hB : a.heap.size ≤ B) : Chg F a c :=
  ⟨hb.os.trans h.os, hb.tape.trans h.tape, hb.output.trans h.output, Nat.le_trans h.size hb.size, fun i hi hn => (hb.block i (by omega)).trans (h.block i hi hn)⟩
theorem Chg.below (h : Chg F a b) (hb : Below b.heap.size b c) : Chg F a c := h.belowN hb h.size
theorem Chg.ofBelow (hb : Below a.heap.size a b) : Chg F a b := Chg.refl.below hb
theorem Chg.toBelow (h : Chg F a b) (hF : ∀ i, F i → a.heap.size ≤ i) : Below a.heap.size a b := ⟨h.os, h.tape, h.output, h.size, fun i hi => h.block i hi fun hf => by have := hF i hf; omega⟩
theorem Chg.keep (h : Chg F a b) {i : Nat} (hi : i < a.heap.size) (hn : ¬ F i) : b.heap[i]? = a.heap[i]? := h.block i hi hn
end

theorem block_lt {w : World} {b : Nat} {o : Obj} (h : w.heap[b]? = some o) : b < w.heap.size := (Array.getElem?_eq_some_iff.1 h).1
theorem block_alloc {w : World} {b : Nat} {o : Obj} (h : w.heap[b]? = some o) (o' : Obj) : (w.alloc o').heap[b]? = some o := (Below.heap_alloc _ _ _ (block_lt h)).trans h
theorem block_other {w : World} {b : Nat} {o : Obj} (h : w.heap[b]? = some o) (p : Addr) (u : Value) (hne : b ≠ p.block) : (w.setCell p u).heap[b]? = some o := (Below.heap_setCell _ _ _ _ hne).trans h
theorem block_setCell {w : World} {b o : Nat} {arr : Array Value} {t : TypeId} {fz : Nat × Nat} (h : w.heap[b]? = some (.cells arr t fz)) (u : Value) : (w.setCell ⟨b, o, none⟩ u).heap[b]? = some (.cells (arr.setIfInBounds o u) t fz) := by
  simp only [World.setCell, Array.getElem?_modify, if_true, h, Option.map_some, Option.isSome_none, Bool.false_eq_true, if_false]

/-! ### what is owned, kept while its block is kept -/
theorem Own.same {α : Type} {enc : α → List Value} {sz : Nat} {e : TypeId} {base : Nat} {w w' : World} {v : Value} {xs : List α} (h : Own enc sz e w base v xs) (hk : ∀ k, v.ownBlock = some k → w'.heap[k]? = w.heap[k]?) : Own enc sz e w' base v xs := by
  refine ⟨h.1, ?_⟩
  rcases h.2 with h | ⟨g, cap, cur, rfl, h0, hg, h1⟩
  · exact .inl h
  · exact .inr ⟨g, cap, cur, rfl, h0, (hk g rfl).trans hg, h1⟩
theorem Own.typed {α : Type} {enc : α → List Value} {sz : Nat} {e : TypeId} {base : Nat} {w : World} {v : Value} {xs : List α} (h : Own enc sz e w base v xs) : ∀ k, v.ownBlock = some k → ∃ cur, w.heap[k]? = some (.cells cur e (0, 0)) := by
  intro k hk
  rcases h.2 with ⟨rfl, _⟩ | ⟨g, cap, cur, rfl, h0, hg, h1⟩
  · cases hk
  · cases hk; exact ⟨_, hg⟩

/-! ### maps as lists of pairs -/
section
variable {α β : Type} [DecidableEq α]
def kget (l : List (α × β)) (x : α) : Option β := (l.find? fun p => p.1 = x).map (·.2)
def kput (l : List (α × β)) (x : α) (v : β) : List (α × β) := if x ∈ l.map (·.1) then l.map (fun p => if p.1 = x then (x, v) else p) else l ++ [(x, v)]
def kdel (l : List (α × β)) (x : α) : List (α × β) := l.filter fun p => p.1 ≠ x
end

structure KeyEnc (P : Program) (k : TypeId) {α : Type} (enc : α → Value) (ok : α → Prop) : Prop where
  keyed : Maps.Keyed P k
  reads : ∀ x, ok x → ∃ kl, keyOf P k (enc x) = some kl
  inj : ∀ x y, enc x = enc y → x = y

structure MapG (P : Program) (k : TypeId) {α β : Type} (kenc : α → Value) (venc : β → Value) (w : World) (b : Nat) (l : List (α × β)) : Prop where
  ex : ∃ es clock, w.heap[b]? = some (.map es clock) ∧ MapKept.Stamped es clock ∧ (∀ e ∈ es.toList, ∃ kl, keyOf P k e.key = some kl) ∧ es.toList.map (fun e => (e.key, e.val)) = l.map fun p => (kenc p.1, venc p.2)

section
variable {P : Program} {k e t : TypeId} {α β : Type} {kenc : α → Value} {venc : β → Value} {ok : α → Prop} {w w' : World} {b : Nat} {l : List (α × β)}

theorem MapG.made (w : World) : MapG P k kenc venc (w.alloc (.map #[] 0)) w.heap.size ([] : List (α × β)) :=
  ⟨_, _, World.alloc_at w _, MapKept.stamped_empty 0, by simp, rfl⟩
theorem MapG.same (h : MapG P k kenc venc w b l) (hb : w'.heap[b]? = w.heap[b]?) : MapG P k kenc venc w' b l := by
  obtain ⟨es, c, h1, h2⟩ := h.ex; exact ⟨es, c, hb.trans h1, h2⟩
theorem MapG.lt (h : MapG P k kenc venc w b l) : b < w.heap.size := by
  obtain ⟨es, c, h1, h2⟩ := h.ex; exact block_lt h1
theorem MapG.alloc (h : MapG P k kenc venc w b l) (o : Obj) : MapG P k kenc venc (w.alloc o) b l := h.same (Below.heap_alloc _ _ _ h.lt)
theorem MapG.obj (h : MapG P k kenc venc w b l) : ∃ es c, w.heap[b]? = some (.map es c) := by
  obtain ⟨es, c, h1, _⟩ := h.ex; exact ⟨es, c, h1⟩
theorem MapG.ne (h : MapG P k kenc venc w b l) {b' : Nat} {arr : Array Value} {t : TypeId} {fz : Nat × Nat} (h' : w.heap[b']? = some (.cells arr t fz)) : b ≠ b' := by
  rintro rfl
  obtain ⟨es, c, h1⟩ := h.obj
  rw [h'] at h1; cases h1
theorem MapG.setCell (h : MapG P k kenc venc w b l) {p : Addr} {arr : Array Value} {t : TypeId} {fz : Nat × Nat} (hp : w.heap[p.block]? = some (.cells arr t fz)) (u : Value) : MapG P k kenc venc (w.setCell p u) b l :=
  h.same (Below.heap_setCell _ _ _ _ (h.ne hp))

theorem find_pairs [DecidableEq α] (hinj : ∀ x y, kenc x = kenc y → x = y) (x : α) : ∀ (es : List MapEntry) (l : List (α × β)), es.map (fun e => (e.key, e.val)) = l.map (fun p => (kenc p.1, venc p.2)) →
    (∀ e ∈ es, e.key ≠ kenc x) → kget l x = none ∧ x ∉ l.map (·.1)
  | [], [], _, _ => by simp [kget]
  | [], _ :: _, h, _ => by simp at h
  | _ :: _, [], h, _ => by simp at h
  | e :: es, p :: l, h, hn => by
    simp only [List.map_cons, List.cons.injEq, Prod.mk.injEq] at h
    obtain ⟨i1, i2⟩ := find_pairs hinj x es l h.2 (fun e' he' => hn e' (by simp [he']))
    have hne : p.1 ≠ x := fun hp => hn e (by simp) (by rw [h.1.1, hp])
    refine ⟨?_, ?_⟩
    · unfold kget at i1 ⊢
      rw [List.find?_cons_of_neg (by simpa using hne)]; exact i1
    · simp only [List.map_cons, List.mem_cons, not_or]; exact ⟨fun e => hne e.symm, i2⟩

theorem nodup_pairs {es : List MapEntry} {l : List (α × β)} (h : es.map (fun e => (e.key, e.val)) = l.map (fun p => (kenc p.1, venc p.2))) (hn : (es.map (·.key)).Nodup) : (l.map (·.1)).Nodup := by
  have : es.map (·.key) = (l.map (·.1)).map kenc := by
    have := congrArg (List.map Prod.fst) h
    simpa [List.map_map, Function.comp_def] using this
  rw [this] at hn
  exact (List.pairwise_map.1 hn).imp fun hne e => hne (by rw [e])

theorem MapG.nodup (h : MapG P k kenc venc w b l) : (l.map (·.1)).Nodup := by
  obtain ⟨es, c, _, hs, _, hl⟩ := h.ex
  exact nodup_pairs hl hs.2.2

theorem find_at [DecidableEq α] (x : α) : ∀ (j : Nat) (es : List MapEntry) (l : List (α × β)) (e0 : MapEntry), es.map (fun e => (e.key, e.val)) = l.map (fun p => (kenc p.1, venc p.2)) → (∀ x y, kenc x = kenc y → x = y) → (l.map (·.1)).Nodup →
    es[j]? = some e0 → e0.key = kenc x → ∃ p, l[j]? = some p ∧ p.1 = x ∧ e0.val = venc p.2 ∧ kget l x = some p.2 := by
  intro j es l e0 h hinj hn hj hk
  have h1 := congrArg (fun l => l[j]?) h
  simp only [List.getElem?_map, hj, Option.map_some] at h1
  cases hl : l[j]? with
  | none => rw [hl] at h1; cases h1
  | some p =>
    rw [hl] at h1
    simp only [Option.map_some, Option.some.injEq, Prod.mk.injEq] at h1
    have hp : p.1 = x := hinj _ _ (by rw [← h1.1, hk])
    refine ⟨p, rfl, hp, h1.2, ?_⟩
    have hm : p ∈ l := List.mem_of_getElem? hl
    clear h h1 hj hk
    unfold kget
    have : ∀ l : List (α × β), (l.map (·.1)).Nodup → p ∈ l → l.find? (fun q => q.1 = x) = some p := by
      intro l hn hm
      induction l with
      | nil => simp at hm
      | cons q l ih =>
        simp only [List.map_cons, List.nodup_cons] at hn
        rcases List.mem_cons.1 hm with rfl | hm
        · simp [hp]
        · have : q.1 ≠ x := fun e => hn.1 (by rw [e, ← hp]; exact List.mem_map_of_mem hm)
          rw [List.find?_cons_of_neg (by simpa using this)]
          exact ih hn.2 hm
    rw [this l hn hm]; rfl

theorem MapG.look [DecidableEq α] (K : KeyEnc P k kenc ok) (h : MapG P k kenc venc w b l) (ht : P.underlying t = some (.map k e)) (x : α) (hx : ok x) (z : Value) (hz : ∀ w, (zeroValue e).run P w = .ok z w) :
    (Instr.lookup t (.map (some b)) (kenc x) false).run P w = .ok (match kget l x with | some v => venc v | none => z) w := by
  obtain ⟨kl, hkey⟩ := K.reads x hx
  have hnd := h.nodup
  obtain ⟨es, c, hb, hs, hks, hl⟩ := h.ex
  rcases K.keyed.find w hkey es.toList hks with ⟨h1, h2⟩ | ⟨j, e0, h1, h2, h3⟩
  · rw [(find_pairs K.inj x es.toList l hl h2).1]
    simp [Instr.lookup, run_underlying ht, MapKept.run_getObj_map hb, K.keyed.check w _ hkey, h1, hz w]
  · obtain ⟨p, _, _, hv, hg⟩ := find_at x j es.toList l e0 hl K.inj hnd h2 h3
    rw [hg]
    simp [Instr.lookup, run_underlying ht, MapKept.run_getObj_map hb, K.keyed.check w _ hkey, h1, hv]

theorem MapG.look_ok [DecidableEq α] (K : KeyEnc P k kenc ok) (h : MapG P k kenc venc w b l) (ht : P.underlying t = some (.map k e)) (x : α) (hx : ok x) (z : Value) (hz : ∀ w, (zeroValue e).run P w = .ok z w) :
    (Instr.lookup t (.map (some b)) (kenc x) true).run P w = .ok (match kget l x with | some v => .tuple #[venc v, .bool true] | none => .tuple #[z, .bool false]) w := by
  obtain ⟨kl, hkey⟩ := K.reads x hx
  have hnd := h.nodup
  obtain ⟨es, c, hb, hs, hks, hl⟩ := h.ex
  rcases K.keyed.find w hkey es.toList hks with ⟨h1, h2⟩ | ⟨j, e0, h1, h2, h3⟩
  · rw [(find_pairs K.inj x es.toList l hl h2).1]
    simp [Instr.lookup, run_underlying ht, MapKept.run_getObj_map hb, K.keyed.check w _ hkey, h1, hz w]
  · obtain ⟨p, _, _, hv, hg⟩ := find_at x j es.toList l e0 hl K.inj hnd h2 h3
    rw [hg]
    simp [Instr.lookup, run_underlying ht, MapKept.run_getObj_map hb, K.keyed.check w _ hkey, h1, hv]

theorem run_look_nil (ht : P.underlying t = some (.map k e)) (K : Maps.Keyed P k) {key : Value} {kl : Lit} (hkey : keyOf P k key = some kl) (z : Value) (hz : ∀ w, (zeroValue e).run P w = .ok z w) (w : World)
    (hnone : ∀ w, (Instr.findKey k key ([] : List MapEntry)).run P w = .ok none w) : (Instr.lookup t (.map none) key false).run P w = .ok z w := by
  simp [Instr.lookup, run_underlying ht, K.check w _ hkey, hnone w, hz w]

theorem MapG.len (h : MapG P k kenc venc w b l) (ht : P.underlying t = some (.map k e)) (ty : TypeId) : (Builtin.len_ #[t] ty #[.map (some b)]).run P w = .ok (.int .i64 l.length) w := by
  obtain ⟨es, c, hb, _, _, hl⟩ := h.ex
  have := congrArg List.length hl
  simp at this
  simp [Builtin.len_, run_underlying ht, MapKept.run_getObj_map hb, goInt, this]

theorem MapG.put [DecidableEq α] (K : KeyEnc P k kenc ok) (h : MapG P k kenc venc w b l) (ht : P.underlying t = some (.map k e)) (x : α) (hx : ok x) (v : β) :
    ∃ w', (Instr.mapUpdate t (.map (some b)) (kenc x) (venc v)).run P w = .ok () w' ∧ MapG P k kenc venc w' b (kput l x v) ∧ w.grownBy w' (some b) ∧ w'.heap.size = w.heap.size := by
  obtain ⟨kl, hkey⟩ := K.reads x hx
  have hnd := h.nodup
  obtain ⟨es, c, hb, hs, hks, hl⟩ := h.ex
  have gr : ∀ o : Obj, w.grownBy (ChangeMaps.setBlock w b o) (some b) := fun o => ⟨rfl, rfl, rfl, by simp [ChangeMaps.setBlock], fun i _ hi => by
    simp only [ChangeMaps.setBlock]; rw [Array.getElem?_setIfInBounds_ne (fun e => hi (by rw [e]))]⟩
  have at_ : ∀ o : Obj, (ChangeMaps.setBlock w b o).heap[b]? = some o := fun o => by
    simp only [ChangeMaps.setBlock]; rw [Array.getElem?_setIfInBounds_self_of_lt (block_lt hb)]
  have sz : ∀ o : Obj, (ChangeMaps.setBlock w b o).heap.size = w.heap.size := fun o => by simp [ChangeMaps.setBlock]
  rcases K.keyed.find w hkey es.toList hks with ⟨h1, h2⟩ | ⟨j, e0, h1, h2, h3⟩
  · refine ⟨ChangeMaps.setBlock w b (.map (es.push ⟨kenc x, venc v, c⟩) (c + 1)), ?_, ⟨_, _, at_ _, MapKept.stamped_push hs h2, ?_, ?_⟩, gr _, sz _⟩
    · simp [Instr.mapUpdate, run_underlying ht, MapKept.run_getObj_map hb, K.keyed.check w false hkey, h1, MapKept.run_setObj_map _ hb, Result.andThen, ChangeMaps.setBlock]
    · intro e' he'
      simp only [Array.toList_push, List.mem_append, List.mem_singleton] at he'
      rcases he' with he' | rfl
      · exact hks e' he'
      · exact ⟨kl, hkey⟩
    · unfold kput
      rw [if_neg (find_pairs K.inj x es.toList l hl h2).2]
      simp [hl]
  · obtain ⟨p, hp, hpx, hv, hg⟩ := find_at x j es.toList l e0 hl K.inj hnd h2 h3
    have hj : es[j]? = some e0 := by simpa using h2
    have hlist : (es.modify j (fun e' => { e' with key := kenc x, val := venc v })).toList = es.toList.set j { e0 with key := kenc x, val := venc v } := by rw [Array.toList_modify, ChangeMaps.modify_eq_set _ _ _ _ h2]
    have hkeyf : ∀ e', es[j]? = some e' → ({ e' with key := kenc x, val := venc v } : MapEntry).key = e'.key := fun e' he' => by rw [hj] at he'; cases he'; exact h3.symm
    refine ⟨ChangeMaps.setBlock w b (.map (es.modify j (fun e' => { e' with key := kenc x, val := venc v })) c), ?_, ⟨_, _, at_ _, MapKept.stamped_modify hs _ _ (fun _ _ => rfl) (fun e' _ he' => hkeyf e' he'), ?_, ?_⟩, gr _, sz _⟩
    · simp [Instr.mapUpdate, run_underlying ht, MapKept.run_getObj_map hb, K.keyed.check w false hkey, h1, hj, h3, K.keyed.stays w hkey, MapKept.run_setObj_map _ hb, Result.andThen, ChangeMaps.setBlock]
    · intro e' he'
      rw [hlist] at he'
      rcases List.mem_or_eq_of_mem_set he' with he' | rfl
      · exact hks e' he'
      · exact ⟨kl, hkey⟩
    · have hmem : x ∈ l.map (·.1) := by rw [← hpx]; exact List.mem_map_of_mem (List.mem_of_getElem? hp)
      unfold kput
      rw [if_pos hmem, hlist, List.map_set, hl]
      apply List.ext_getElem?
      intro i
      rw [List.getElem?_set]
      simp only [List.getElem?_map, Option.map_map, Function.comp_def, List.length_map]
      by_cases hij : j = i
      · subst hij
        have hjl : j < l.length := (List.getElem?_eq_some_iff.1 hp).1
        rw [if_pos rfl, if_pos hjl, hp]
        simp [hpx]
      · rw [if_neg hij]
        cases hli : l[i]? with
        | none => rfl
        | some q =>
          have hq : q.1 ≠ x := by
            intro e
            have h1 : (l.map (·.1))[i]? = some x := by simp [hli, e]
            have h2 : (l.map (·.1))[j]? = some x := by simp [hp, hpx]
            exact hij ((List.getElem?_inj (by simpa using (List.getElem?_eq_some_iff.1 hp).1) hnd).1 (h2.trans h1.symm))
          simp [hq]

theorem MapG.del [DecidableEq α] (K : KeyEnc P k kenc ok) (h : MapG P k kenc venc w b l) (ht : P.underlying t = some (.map k e)) (x : α) (hx : ok x) (ty : TypeId) :
    ∃ w', (Builtin.delete_ #[t, k] ty #[.map (some b), kenc x]).run P w = .ok (.tuple #[]) w' ∧ MapG P k kenc venc w' b (kdel l x) ∧ w.grownBy w' (some b) ∧ w'.heap.size = w.heap.size := by
  obtain ⟨kl, hkey⟩ := K.reads x hx
  have hnd := h.nodup
  obtain ⟨es, c, hb, hs, hks, hl⟩ := h.ex
  have gr : ∀ o : Obj, w.grownBy (ChangeMaps.setBlock w b o) (some b) := fun o => ⟨rfl, rfl, rfl, by simp [ChangeMaps.setBlock], fun i _ hi => by
    simp only [ChangeMaps.setBlock]; rw [Array.getElem?_setIfInBounds_ne (fun e => hi (by rw [e]))]⟩
  have at_ : ∀ o : Obj, (ChangeMaps.setBlock w b o).heap[b]? = some o := fun o => by
    simp only [ChangeMaps.setBlock]; rw [Array.getElem?_setIfInBounds_self_of_lt (block_lt hb)]
  have sz : ∀ o : Obj, (ChangeMaps.setBlock w b o).heap.size = w.heap.size := fun o => by simp [ChangeMaps.setBlock]
  rcases K.keyed.find w hkey es.toList hks with ⟨h1, h2⟩ | ⟨j, e0, h1, h2, h3⟩
  · refine ⟨ChangeMaps.setBlock w b (.map es c), ?_, ⟨_, _, at_ _, hs, hks, ?_⟩, gr _, sz _⟩
    · simp [Builtin.delete_, run_underlying ht, MapKept.run_getObj_map hb, K.keyed.check w _ hkey, h1, MapKept.run_setObj_map _ hb, Result.andThen, ChangeMaps.setBlock]
    · have hnm := (find_pairs K.inj x es.toList l hl h2).2
      have : kdel l x = l := by
        unfold kdel
        rw [List.filter_eq_self]
        intro p hp
        simp only [ne_eq, decide_not, Bool.not_eq_true', decide_eq_false_iff_not]
        exact fun e => hnm (by rw [← e]; exact List.mem_map_of_mem hp)
      rw [this]; exact hl
  · obtain ⟨p, hp, hpx, hv, hg⟩ := find_at x j es.toList l e0 hl K.inj hnd h2 h3
    have hjl : j < es.toList.length := (List.getElem?_eq_some_iff.1 h2).1
    have hjs : j < es.size := by simpa using hjl
    have hsub : (es.eraseIdxIfInBounds j).toList = es.toList.eraseIdx j := by
      unfold Array.eraseIdxIfInBounds
      rw [dif_pos hjs]
      simp
    refine ⟨ChangeMaps.setBlock w b (.map (es.eraseIdxIfInBounds j) c), ?_, ⟨_, _, at_ _, MapKept.stamped_erase hs j, ?_, ?_⟩, gr _, sz _⟩
    · simp [Builtin.delete_, run_underlying ht, MapKept.run_getObj_map hb, K.keyed.check w _ hkey, h1, MapKept.run_setObj_map _ hb, Result.andThen, ChangeMaps.setBlock]
    · intro e' he'
      rw [hsub] at he'
      exact hks e' ((List.eraseIdx_sublist _ _).subset he')
    · have he : kdel l x = l.eraseIdx j := by
        unfold kdel
        have := ChangeMaps.filter_eq_eraseIdx (fun p : α × β => p.1 == x) l j p hp (by simpa using hpx) ?_
        · rw [← this]
          congr 1
          funext q
          by_cases hq : q.1 = x <;> simp [hq]
        · exact (List.pairwise_map.1 hnd).imp (fun hne ⟨h1, h2⟩ => hne ((by simpa using h1 : _ = x).trans (by simpa using h2 : _ = x).symm))
      rw [hsub, he, ChangeMaps.map_eraseIdx, ChangeMaps.map_eraseIdx, hl]

theorem MapG.clear (h : MapG P k kenc venc w b l) (ht : P.underlying t = some (.map k e)) (ty : TypeId) :
    ∃ w', (Builtin.clear_ #[t] ty #[.map (some b)]).run P w = .ok (.tuple #[]) w' ∧ MapG P k kenc venc w' b ([] : List (α × β)) ∧ w.grownBy w' (some b) ∧ w'.heap.size = w.heap.size := by
  obtain ⟨es, c, hb, hs, hks, hl⟩ := h.ex
  refine ⟨ChangeMaps.setBlock w b (.map #[] c), ?_, ⟨_, _, ?_, MapKept.stamped_empty c, by simp, rfl⟩, ⟨rfl, rfl, rfl, by simp [ChangeMaps.setBlock], fun i _ hi => ?_⟩, by simp [ChangeMaps.setBlock]⟩
  · simp [Builtin.clear_, run_underlying ht, MapKept.run_getObj_map hb, MapKept.run_setObj_map _ hb, ChangeMaps.setBlock]
  · simp only [ChangeMaps.setBlock]; rw [Array.getElem?_setIfInBounds_self_of_lt (block_lt hb)]
  · simp only [ChangeMaps.setBlock]; rw [Array.getElem?_setIfInBounds_ne (fun e => hi (by rw [e]))]
end
end Go.Proofs.YtjoaldaldcpfeaaGreatDoor
