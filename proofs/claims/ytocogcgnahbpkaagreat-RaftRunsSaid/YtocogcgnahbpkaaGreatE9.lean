/-
  A part of the proof of what E53 says at its head.
-/
import Derived.Maps.RangeWalk
import Derived.Test.YtocogcgnahbpkaaGreatE7
namespace Go.SL
open Go.RowKit
theorem blk_lt {w : World} {b : Nat} {o : Obj} (h : w.heap[b]? = some o) : b < w.heap.size := (Array.getElem?_eq_some_iff.1 h).1
section
variable {α β : Type} [DecidableEq α]
def kget (l : List (α × β)) (x : α) : Option β := (l.find? fun p => p.1 = x).map (·.2)
def kput (l : List (α × β)) (x : α) (v : β) : List (α × β) := if x ∈ l.map (·.1) then l.map (fun p => if p.1 = x then (x, v) else p) else l ++ [(x, v)]
def kdel (l : List (α × β)) (x : α) : List (α × β) := l.filter fun p => p.1 ≠ x
end
structure KeyEnc (P : Program) (k : TypeId) {α : Type} (enc : α → Value) (ok : α → Prop) : Prop where
  keyed : Maps.Keyed P k
  reads : ∀ x, ok x → ∃ kl, keyOf P k (enc x) = some kl
  inj : ∀ x y, enc x = enc y → x = y
structure MapG (P : Program) (k : TypeId) {α β : Type} (kenc : α → Value) (venc : β → Value) (w : World) (b : Nat) (l : List (α × β)) : Prop where
  ex : ∃ es clock, w.heap[b]? = some (.map es clock) ∧ MapKept.Stamped es clock ∧ (∀ e ∈ es.toList, ∃ kl, keyOf P k e.key = some kl) ∧ es.toList.map (fun e => (e.key, e.val)) = l.map fun p => (kenc p.1, venc p.2)
section
variable {P : Program} {k e t : TypeId} {α β : Type} {kenc : α → Value} {venc : β → Value} {ok : α → Prop} {w w' : World} {b : Nat} {l : List (α × β)}
theorem MapG.lt (h : MapG P k kenc venc w b l) : b < w.heap.size := by
  obtain ⟨es, c, h1, h2⟩ := h.ex; exact blk_lt h1
theorem find_pairs [DecidableEq α] (hinj : ∀ x y, kenc x = kenc y → x = y) (x : α) : ∀ (es : List MapEntry) (l : List (α × β)), es.map (fun e => (e.key, e.val)) = l.map (fun p => (kenc p.1, venc p.2)) →
    (∀ e ∈ es, e.key ≠ kenc x) → kget l x = none ∧ x ∉ l.map (·.1)
  | [], [], _, _ => by simp [kget]
  | [], _ :: _, h, _ => by simp at h
  | _ :: _, [], h, _ => by simp at h
  | e :: es, p :: l, h, hn => by
    simp only [List.map_cons, List.cons.injEq, Prod.mk.injEq] at h
    obtain ⟨i1, i2⟩ := find_pairs hinj x es l h.2 (fun e' he' => hn e' (by simp [he']))
    have hne : p.1 ≠ x := fun hp => hn e (by simp) (by rw [h.1.1, hp])
    refine ⟨?_, ?_⟩
    · unfold kget at i1 ⊢
      rw [List.find?_cons_of_neg (by simpa using hne)]; exact i1
    · simp only [List.map_cons, List.mem_cons, not_or]; exact ⟨fun e => hne e.symm, i2⟩
theorem nodup_pairs {es : List MapEntry} {l : List (α × β)} (h : es.map (fun e => (e.key, e.val)) = l.map (fun p => (kenc p.1, venc p.2))) (hn : (es.map (·.key)).Nodup) : (l.map (·.1)).Nodup := by
  have : es.map (·.key) = (l.map (·.1)).map kenc := by
    have := congrArg (List.map Prod.fst) h
    simpa [List.map_map, Function.comp_def] using this
  rw [this] at hn
  exact (List.pairwise_map.1 hn).imp fun hne e => hne (by rw [e])
theorem MapG.nodup (h : MapG P k kenc venc w b l) : (l.map (·.1)).Nodup := by
  obtain ⟨es, c, _, hs, _, hl⟩ := h.ex
  exact nodup_pairs hl hs.2.2
theorem find_at [DecidableEq α] (x : α) : ∀ (j : Nat) (es : List MapEntry) (l : List (α × β)) (e0 : MapEntry), es.map (fun e => (e.key, e.val)) = l.map (fun p => (kenc p.1, venc p.2)) → (∀ x y, kenc x = kenc y → x = y) → (l.map (·.1)).Nodup →
    es[j]? = some e0 → e0.key = kenc x → ∃ p, l[j]? = some p ∧ p.1 = x ∧ e0.val = venc p.2 ∧ kget l x = some p.2 := by
  intro j es l e0 h hinj hn hj hk
  have h1 := congrArg (fun l => l[j]?) h
  simp only [List.getElem?_map, hj, Option.map_some] at h1
  cases hl : l[j]? with
  | none => rw [hl] at h1; cases h1
  | some p =>
    rw [hl] at h1
    simp only [Option.map_some, Option.some.injEq, Prod.mk.injEq] at h1
    have hp : p.1 = x := hinj _ _ (by rw [← h1.1, hk])
    refine ⟨p, rfl, hp, h1.2, ?_⟩
    have hm : p ∈ l := List.mem_of_getElem? hl
    clear h h1 hj hk
    unfold kget
    have : ∀ l : List (α × β), (l.map (·.1)).Nodup → p ∈ l → l.find? (fun q => q.1 = x) = some p := by
      intro l hn hm
      induction l with
      | nil => simp at hm
      | cons q l ih =>
        simp only [List.map_cons, List.nodup_cons] at hn
        rcases List.mem_cons.1 hm with rfl | hm
        · simp [hp]
        · have : q.1 ≠ x := fun e => hn.1 (by rw [e, ← hp]; exact List.mem_map_of_mem hm)
          rw [List.find?_cons_of_neg (by simpa using this)]
          exact ih hn.2 hm
    rw [this l hn hm]; rfl
theorem MapG.look [DecidableEq α] (K : KeyEnc P k kenc ok) (h : MapG P k kenc venc w b l) (ht : P.underlying t = some (.map k e)) (x : α) (hx : ok x) (z : Value) (hz : ∀ w, (zeroValue e).run P w = .ok z w) :
    (Instr.lookup t (.map (some b)) (kenc x) false).run P w = .ok (match kget l x with | some v => venc v | none => z) w := by
  obtain ⟨kl, hkey⟩ := K.reads x hx
  have hnd := h.nodup
  obtain ⟨es, c, hb, hs, hks, hl⟩ := h.ex
  rcases K.keyed.find w hkey es.toList hks with ⟨h1, h2⟩ | ⟨j, e0, h1, h2, h3⟩
  · rw [(find_pairs K.inj x es.toList l hl h2).1]
    simp [Instr.lookup, run_underlying ht, MapKept.run_getObj_map hb, K.keyed.check w _ hkey, h1, hz w]
  · obtain ⟨p, _, _, hv, hg⟩ := find_at x j es.toList l e0 hl K.inj hnd h2 h3
    rw [hg]
    simp [Instr.lookup, run_underlying ht, MapKept.run_getObj_map hb, K.keyed.check w _ hkey, h1, hv]
theorem MapG.look_ok [DecidableEq α] (K : KeyEnc P k kenc ok) (h : MapG P k kenc venc w b l) (ht : P.underlying t = some (.map k e)) (x : α) (hx : ok x) (z : Value) (hz : ∀ w, (zeroValue e).run P w = .ok z w) :
    (Instr.lookup t (.map (some b)) (kenc x) true).run P w = .ok (match kget l x with | some v => .tuple #[venc v, .bool true] | none => .tuple #[z, .bool false]) w := by
  obtain ⟨kl, hkey⟩ := K.reads x hx
  have hnd := h.nodup
  obtain ⟨es, c, hb, hs, hks, hl⟩ := h.ex
  rcases K.keyed.find w hkey es.toList hks with ⟨h1, h2⟩ | ⟨j, e0, h1, h2, h3⟩
  · rw [(find_pairs K.inj x es.toList l hl h2).1]
    simp [Instr.lookup, run_underlying ht, MapKept.run_getObj_map hb, K.keyed.check w _ hkey, h1, hz w]
  · obtain ⟨p, _, _, hv, hg⟩ := find_at x j es.toList l e0 hl K.inj hnd h2 h3
    rw [hg]
    simp [Instr.lookup, run_underlying ht, MapKept.run_getObj_map hb, K.keyed.check w _ hkey, h1, hv]
theorem run_look_nil (ht : P.underlying t = some (.map k e)) (K : Maps.Keyed P k) {key : Value} {kl : Lit} (hkey : keyOf P k key = some kl) (z : Value) (hz : ∀ w, (zeroValue e).run P w = .ok z w) (w : World)
    (hnone : ∀ w, (Instr.findKey k key ([] : List MapEntry)).run P w = .ok none w) : (Instr.lookup t (.map none) key false).run P w = .ok z w := by
  simp [Instr.lookup, run_underlying ht, K.check w _ hkey, hnone w, hz w]
theorem MapG.len (h : MapG P k kenc venc w b l) (ht : P.underlying t = some (.map k e)) (ty : TypeId) : (Builtin.len_ #[t] ty #[.map (some b)]).run P w = .ok (.int .i64 l.length) w := by
  obtain ⟨es, c, hb, _, _, hl⟩ := h.ex
  have := congrArg List.length hl
  simp at this
  simp [Builtin.len_, run_underlying ht, MapKept.run_getObj_map hb, goInt, this]
theorem MapG.put [DecidableEq α] (K : KeyEnc P k kenc ok) (h : MapG P k kenc venc w b l) (ht : P.underlying t = some (.map k e)) (x : α) (hx : ok x) (v : β) :
    ∃ w', (Instr.mapUpdate t (.map (some b)) (kenc x) (venc v)).run P w = .ok () w' ∧ MapG P k kenc venc w' b (kput l x v) ∧ w.grownBy w' (some b) ∧ w'.heap.size = w.heap.size := by
  obtain ⟨kl, hkey⟩ := K.reads x hx
  have hnd := h.nodup
  obtain ⟨es, c, hb, hs, hks, hl⟩ := h.ex
  have gr : ∀ o : Obj, w.grownBy (ChangeMaps.setBlock w b o) (some b) := fun o => ⟨rfl, rfl, rfl, by simp [ChangeMaps.setBlock], fun i _ hi => by
    simp only [ChangeMaps.setBlock]; rw [Array.getElem?_setIfInBounds_ne (fun e => hi (by rw [e]))]⟩
  have at_ : ∀ o : Obj, (ChangeMaps.setBlock w b o).heap[b]? = some o := fun o => by
    simp only [ChangeMaps.setBlock]; rw [Array.getElem?_setIfInBounds_self_of_lt (blk_lt hb)]
  have sz : ∀ o : Obj, (ChangeMaps.setBlock w b o).heap.size = w.heap.size := fun o => by simp [ChangeMaps.setBlock]
  rcases K.keyed.find w hkey es.toList hks with ⟨h1, h2⟩ | ⟨j, e0, h1, h2, h3⟩
  · refine ⟨ChangeMaps.setBlock w b (.map (es.push ⟨kenc x, venc v, c⟩) (c + 1)), ?_, ⟨_, _, at_ _, MapKept.stamped_push hs h2, ?_, ?_⟩, gr _, sz _⟩
    · simp [Instr.mapUpdate, run_underlying ht, MapKept.run_getObj_map hb, K.keyed.check w false hkey, h1, MapKept.run_setObj_map _ hb, Result.andThen, ChangeMaps.setBlock]
    · intro e' he'
      simp only [Array.toList_push, List.mem_append, List.mem_singleton] at he'
      rcases he' with he' | rfl
      · exact hks e' he'
      · exact ⟨kl, hkey⟩
    · unfold kput
      rw [if_neg (find_pairs K.inj x es.toList l hl h2).2]
      simp [hl]
  · obtain ⟨p, hp, hpx, hv, hg⟩ := find_at x j es.toList l e0 hl K.inj hnd h2 h3
    have hj : es[j]? = some e0 := by simpa using h2
    have hlist : (es.modify j (fun e' => { e' with key := kenc x, val := venc v })).toList = es.toList.set j { e0 with key := kenc x, val := venc v } := by rw [Array.toList_modify, ChangeMaps.modify_eq_set _ _ _ _ h2]
    have hkeyf : ∀ e', es[j]? = some e' → ({ e' with key := kenc x, val := venc v } : MapEntry).key = e'.key := fun e' he' => by rw [hj] at he'; cases he'; exact h3.symm
    refine ⟨ChangeMaps.setBlock w b (.map (es.modify j (fun e' => { e' with key := kenc x, val := venc v })) c), ?_, ⟨_, _, at_ _, MapKept.stamped_modify hs _ _ (fun _ _ => rfl) (fun e' _ he' => hkeyf e' he'), ?_, ?_⟩, gr _, sz _⟩
    · simp [Instr.mapUpdate, run_underlying ht, MapKept.run_getObj_map hb, K.keyed.check w false hkey, h1, hj, h3, K.keyed.stays w hkey, MapKept.run_setObj_map _ hb, Result.andThen, ChangeMaps.setBlock]
    · intro e' he'
      rw [hlist] at he'
      rcases List.mem_or_eq_of_mem_set he' with he' | rfl
      · exact hks e' he'
      · exact ⟨kl, hkey⟩
    · have hmem : x ∈ l.map (·.1) := by rw [← hpx]; exact List.mem_map_of_mem (List.mem_of_getElem? hp)
      unfold kput
      rw [if_pos hmem, hlist, List.map_set, hl]
      apply List.ext_getElem?
      intro i
      rw [List.getElem?_set]
      simp only [List.getElem?_map, Option.map_map, Function.comp_def, List.length_map]
      by_cases hij : j = i
      · subst hij
        have hjl : j < l.length := (List.getElem?_eq_some_iff.1 hp).1
        rw [if_pos rfl, if_pos hjl, hp]
        simp [hpx]
      · rw [if_neg hij]
        cases hli : l[i]? with
        | none => rfl
        | some q =>
          have hq : q.1 ≠ x := by
            intro e
            have h1 : (l.map (·.1))[i]? = some x := by simp [hli, e]
            have h2 : (l.map (·.1))[j]? = some x := by simp [hp, hpx]
            exact hij ((List.getElem?_inj (by simpa using (List.getElem?_eq_some_iff.1 hp).1) hnd).1 (h2.trans h1.symm))
          simp [hq]
theorem MapG.del [DecidableEq α] (K : KeyEnc P k kenc ok) (h : MapG P k kenc venc w b l) (ht : P.underlying t = some (.map k e)) (x : α) (hx : ok x) (ty : TypeId) :
    ∃ w', (Builtin.delete_ #[t, k] ty #[.map (some b), kenc x]).run P w = .ok (.tuple #[]) w' ∧ MapG P k kenc venc w' b (kdel l x) ∧ w.grownBy w' (some b) ∧ w'.heap.size = w.heap.size := by
  obtain ⟨kl, hkey⟩ := K.reads x hx
  have hnd := h.nodup
  obtain ⟨es, c, hb, hs, hks, hl⟩ := h.ex
  have gr : ∀ o : Obj, w.grownBy (ChangeMaps.setBlock w b o) (some b) := fun o => ⟨rfl, rfl, rfl, by simp [ChangeMaps.setBlock], fun i _ hi => by
    simp only [ChangeMaps.setBlock]; rw [Array.getElem?_setIfInBounds_ne (fun e => hi (by rw [e]))]⟩
  have at_ : ∀ o : Obj, (ChangeMaps.setBlock w b o).heap[b]? = some o := fun o => by
    simp only [ChangeMaps.setBlock]; rw [Array.getElem?_setIfInBounds_self_of_lt (blk_lt hb)]
  have sz : ∀ o : Obj, (ChangeMaps.setBlock w b o).heap.size = w.heap.size := fun o => by simp [ChangeMaps.setBlock]
  rcases K.keyed.find w hkey es.toList hks with ⟨h1, h2⟩ | ⟨j, e0, h1, h2, h3⟩
  · refine ⟨ChangeMaps.setBlock w b (.map es c), ?_, ⟨_, _, at_ _, hs, hks, ?_⟩, gr _, sz _⟩
    · simp [Builtin.delete_, run_underlying ht, MapKept.run_getObj_map hb, K.keyed.check w _ hkey, h1, MapKept.run_setObj_map _ hb, Result.andThen, ChangeMaps.setBlock]
    · have hnm := (find_pairs K.inj x es.toList l hl h2).2
      have : kdel l x = l := by
        unfold kdel
        rw [List.filter_eq_self]
        intro p hp
        simp only [ne_eq, decide_not, Bool.not_eq_true', decide_eq_false_iff_not]
        exact fun e => hnm (by rw [← e]; exact List.mem_map_of_mem hp)
      rw [this]; exact hl
  · obtain ⟨p, hp, hpx, hv, hg⟩ := find_at x j es.toList l e0 hl K.inj hnd h2 h3
    have hjl : j < es.toList.length := (List.getElem?_eq_some_iff.1 h2).1
    have hjs : j < es.size := by simpa using hjl
    have hsub : (es.eraseIdxIfInBounds j).toList = es.toList.eraseIdx j := by
      unfold Array.eraseIdxIfInBounds
      rw [dif_pos hjs]
      simp
    refine ⟨ChangeMaps.setBlock w b (.map (es.eraseIdxIfInBounds j) c), ?_, ⟨_, _, at_ _, MapKept.stamped_erase hs j, ?_, ?_⟩, gr _, sz _⟩
    · simp [Builtin.delete_, run_underlying ht, MapKept.run_getObj_map hb, K.keyed.check w _ hkey, h1, MapKept.run_setObj_map _ hb, Result.andThen, ChangeMaps.setBlock]
    · intro e' he'
      rw [hsub] at he'
      exact hks e' ((List.eraseIdx_sublist _ _).subset he')
    · have he : kdel l x = l.eraseIdx j := by
        unfold kdel
        have := ChangeMaps.filter_eq_eraseIdx (fun p : α × β => p.1 == x) l j p hp (by simpa using hpx) ?_
        · rw [← this]
          congr 1
          funext q
          by_cases hq : q.1 = x <;> simp [hq]
        · exact (List.pairwise_map.1 hnd).imp (fun hne ⟨h1, h2⟩ => hne ((by simpa using h1 : _ = x).trans (by simpa using h2 : _ = x).symm))
      rw [hsub, he, ChangeMaps.map_eraseIdx, ChangeMaps.map_eraseIdx, hl]
theorem MapG.clear (h : MapG P k kenc venc w b l) (ht : P.underlying t = some (.map k e)) (ty : TypeId) :
    ∃ w', (Builtin.clear_ #[t] ty #[.map (some b)]).run P w = .ok (.tuple #[]) w' ∧ MapG P k kenc venc w' b ([] : List (α × β)) ∧ w.grownBy w' (some b) ∧ w'.heap.size = w.heap.size := by
  obtain ⟨es, c, hb, hs, hks, hl⟩ := h.ex
  refine ⟨ChangeMaps.setBlock w b (.map #[] c), ?_, ⟨_, _, ?_, MapKept.stamped_empty c, by simp, rfl⟩, ⟨rfl, rfl, rfl, by simp [ChangeMaps.setBlock], fun i _ hi => ?_⟩, by simp [ChangeMaps.setBlock]⟩
  · simp [Builtin.clear_, run_underlying ht, MapKept.run_getObj_map hb, MapKept.run_setObj_map _ hb, ChangeMaps.setBlock]
  · simp only [ChangeMaps.setBlock]; rw [Array.getElem?_setIfInBounds_self_of_lt (blk_lt hb)]
  · simp only [ChangeMaps.setBlock]; rw [Array.getElem?_setIfInBounds_ne (fun e => hi (by rw [e]))]
end
structure Ranging (P : Program) (k : TypeId) {α β : Type} (kenc : α → Value) (venc : β → Value) (w : World) (b r : Nat) (left : List (α × β)) : Prop where
  ex : ∃ es clock since seen c0, w.heap[b]? = some (.map es clock) ∧ MapKept.Stamped es clock ∧ w.heap[r]? = some (.mapIter (some b) since seen c0) ∧ (∀ x ∈ es.toList, x.born < since) ∧ since ≤ c0 ∧ since ≤ clock ∧
    ((leftOf es seen).toList.map (fun e => (e.key, e.val))).Perm (left.map fun p => (kenc p.1, venc p.2))
section
variable {P : Program} {k e t : TypeId} {α β : Type} {kenc : α → Value} {venc : β → Value} {w w' : World} {b r : Nat} {l left : List (α × β)}
theorem perm_filter_born {l : List MapEntry} {e : MapEntry} (hn : (l.map (·.born)).Nodup) (he : e ∈ l) : l.Perm (e :: l.filter fun x => x.born ≠ e.born) := by
  induction l with
  | nil => simp at he
  | cons a l ih =>
    simp only [List.map_cons, List.nodup_cons] at hn
    rcases List.mem_cons.1 he with rfl | he
    · rw [List.filter_cons_of_neg (by simp)]
      have : l.filter (fun x => x.born ≠ e.born) = l := by
        rw [List.filter_eq_self]
        intro x hx
        simp only [ne_eq, decide_not, Bool.not_eq_true', decide_eq_false_iff_not]
        exact fun e1 => hn.1 (by rw [← e1]; exact List.mem_map_of_mem hx)
      rw [this]
    · have hne : a.born ≠ e.born := fun e1 => hn.1 (by rw [e1]; exact List.mem_map_of_mem he)
      rw [List.filter_cons_of_pos (by simpa using hne)]
      exact ((ih hn.2 he).cons a).trans (List.Perm.swap ..)
theorem map_pairs_perm {l1 : List MapEntry} {a : MapEntry} {l2 : List MapEntry} (hp : l1.Perm (a :: l2)) (hl : (l1.map (fun e => (e.key, e.val))).Perm (left.map fun p => (kenc p.1, venc p.2))) :
    ∃ p left', left.Perm (p :: left') ∧ a.key = kenc p.1 ∧ a.val = venc p.2 ∧ (l2.map (fun e => (e.key, e.val))).Perm (left'.map fun p => (kenc p.1, venc p.2)) := by
  have h2 := hl.symm.trans (hp.map (fun e : MapEntry => (e.key, e.val)))
  rw [List.map_cons] at h2
  have hm : (a.key, a.val) ∈ left.map fun p => (kenc p.1, venc p.2) := h2.mem_iff.2 (by simp)
  obtain ⟨p, hpm, he⟩ := List.mem_map.1 hm
  simp only [Prod.mk.injEq] at he
  obtain ⟨s, t, rfl⟩ := List.append_of_mem hpm
  refine ⟨p, s ++ t, List.perm_middle, he.1.symm, he.2.symm, ?_⟩
  have h3 := ((List.perm_middle (a := p) (l₁ := s) (l₂ := t)).map fun p => (kenc p.1, venc p.2)).symm.trans h2
  rw [List.map_cons, he.1, he.2] at h3
  exact h3.cons_inv.symm
theorem Ranging.next (h : Ranging P k kenc venc w b r left) (ty : TypeId) :
    (left = [] ∧ (Instr.next (.pointer (some ⟨r, 0, none⟩)) false ty).run P w = .ok (.tuple #[.bool false]) w) ∨
    ∃ p left' w', left.Perm (p :: left') ∧ (Instr.next (.pointer (some ⟨r, 0, none⟩)) false ty).run P w = .ok (.tuple #[.bool true, kenc p.1, venc p.2]) w' ∧ Ranging P k kenc venc w' b r left' ∧ w.grownBy w' (some r) ∧ w'.heap.size = w.heap.size ∧
      (Instr.entry (.pointer (some ⟨r, 0, none⟩))).run P w' = .ok (.tuple #[kenc p.1, venc p.2]) w' := by
  obtain ⟨es, clock, since, seen, c0, hb, hs, hr, hold, hsc, hsk, hl⟩ := h.ex
  have hne : r ≠ b := by
    intro e
    rw [e, hb] at hr
    cases hr
  rcases run_next_at (P := P) w ty r b since c0 seen es clock hr hb hold hsc with ⟨h0, hrun⟩ | ⟨e, he, w1, hal, hrun⟩
  · refine .inl ⟨?_, hrun⟩
    have : leftOf es seen = #[] := Array.eq_empty_of_size_eq_zero h0
    rw [this] at hl
    simpa using hl
  · obtain ⟨hem, hes⟩ := mem_left he
    have hnd : ((leftOf es seen).toList.map (·.born)).Nodup := by
      unfold leftOf
      rw [Array.toList_filter]
      exact ((List.filter_sublist (l := es.toList)).map _).nodup hs.2.1
    have hp := perm_filter_born hnd he
    obtain ⟨p, left', hpm, hk, hv, hl'⟩ := map_pairs_perm hp hl
    have hr1 : w1.heap[r]? = some (.mapIter (some b) since seen c0) := by rcases hal with rfl | rfl <;> exact hr
    have hb1 : w1.heap[b]? = some (.map es clock) := by rcases hal with rfl | rfl <;> exact hb
    have hat : (ChangeMaps.setBlock w1 r (.mapIter (some b) since (seen.push e.born) clock)).heap[r]? = some (.mapIter (some b) since (seen.push e.born) clock) := by
      simp only [ChangeMaps.setBlock]; rw [Array.getElem?_setIfInBounds_self_of_lt (blk_lt hr1)]
    have hot : ∀ i, i ≠ r → (ChangeMaps.setBlock w1 r (.mapIter (some b) since (seen.push e.born) clock)).heap[i]? = w1.heap[i]? := fun i hi => by
      simp only [ChangeMaps.setBlock]; rw [Array.getElem?_setIfInBounds_ne (fun e => hi e.symm)]
    have hb2 : (ChangeMaps.setBlock w1 r (.mapIter (some b) since (seen.push e.born) clock)).heap[b]? = some (.map es clock) := (hot b (fun e => hne e.symm)).trans hb1
    have hsz : (ChangeMaps.setBlock w1 r (.mapIter (some b) since (seen.push e.born) clock)).heap.size = w.heap.size := by rcases hal with rfl | rfl <;> simp [ChangeMaps.setBlock]
    refine .inr ⟨p, left', _, hpm, by rw [hk, hv] at hrun; exact hrun, ⟨es, clock, since, _, clock, hb2, hs, hat, hold, hsk, hsk, ?_⟩, ⟨by rcases hal with rfl | rfl <;> rfl, by rcases hal with rfl | rfl <;> rfl, by rcases hal with rfl | rfl <;> rfl, by omega, fun i _ hi => ?_⟩, hsz, ?_⟩
    · refine List.Perm.trans (List.Perm.of_eq ?_) hl'
      congr 1
      unfold leftOf
      rw [Array.toList_filter, Array.toList_filter, List.filter_filter]
      congr 1
      funext x
      rw [contains_push]
      by_cases hx : x.born = e.born <;> simp [hx]
    · rw [hot i (fun e => hi (by rw [e]))]
      rcases hal with rfl | rfl <;> rfl
    · have := run_entry_at (P := P) _ r b since seen es clock e hat hb2 hem hs.2.1
      rw [hk, hv] at this
      exact this
end
def Mp (P : Program) (k : TypeId) {α β : Type} (kenc : α → Value) (venc : β → Value) (b : Nat) (l : List (α × β)) : HP := fun r =>
  ∃ es clock, Own true b (.map es clock) r ∧ MapKept.Stamped es clock ∧ (∀ e ∈ es.toList, ∃ kl, keyOf P k e.key = some kl) ∧ es.toList.map (fun e => (e.key, e.val)) = l.map fun p => (kenc p.1, venc p.2)
def Rg (P : Program) (k : TypeId) {α β : Type} (kenc : α → Value) (venc : β → Value) (b z : Nat) (l left : List (α × β)) (cur : Option (α × β)) : HP :=
  fun r => ∃ es clock since seen c0, Stars [Own true b (.map es clock), Own true z (.mapIter (some b) since seen c0)] r ∧ MapKept.Stamped es clock ∧ (∀ e ∈ es.toList, ∃ kl, keyOf P k e.key = some kl) ∧ es.toList.map (fun e => (e.key, e.val)) = l.map (fun p => (kenc p.1, venc p.2)) ∧
    (∀ x ∈ es.toList, x.born < since) ∧ since ≤ c0 ∧ since ≤ clock ∧ ((leftOf es seen).toList.map (fun e => (e.key, e.val))).Perm (left.map fun p => (kenc p.1, venc p.2)) ∧
    (∀ p, cur = some p → c0 = clock ∧ ∃ e ∈ es.toList, (∃ sn : Array Nat, seen = sn.push e.born) ∧ e.key = kenc p.1 ∧ e.val = venc p.2)
section
variable {P : Program} {k e : TypeId} {α β : Type} {kenc : α → Value} {venc : β → Value} {ok : α → Prop} {w w' : World} {b z : Nat} {l left : List (α × β)} {L : List HP}
theorem Sat.mp (h : Sat w (Mp P k kenc venc b l :: L)) : MapG P k kenc venc w b l := by
  obtain ⟨r, a, r1, r2, x, y, q, ⟨es, c, ho, h1, h2, h3⟩, v⟩ := h
  exact ⟨es, c, Sat.own (q := true) (l := []) ⟨r1, a.le x, r1, fun _ => none, .refl _, fun _ _ _ h => (nomatch h), fun _ _ _ _ _ _ h => (nomatch h), ho, trivial⟩, h1, h2, h3⟩
theorem Sat.putMp {l' : List (α × β)} (h : Sat w (Mp P k kenc venc b l :: L)) (h' : MapG P k kenc venc w' b l') (hg : w.grownBy w' (some b)) (hs : w'.heap.size = w.heap.size) : Sat w' (Mp P k kenc venc b l' :: L) := by
  obtain ⟨r, a, r1, r2, x, y, q, ⟨es, c, ho, h1, h2, h3⟩, v⟩ := h
  obtain ⟨es', c', g1, g2⟩ := h'.ex
  have h0 : Sat w (Own true b (.map es c) :: L) := ⟨r, a, r1, r2, x, y, q, ho, v⟩
  obtain ⟨r', a', r1', r2', x', y', q', ho', v'⟩ := h0.upd (o' := .map es' c') g1 (fun i hi => by
    by_cases hlt : i < w.heap.size
    · exact hg.block i hlt (fun e => hi (by injection e))
    · rw [Array.getElem?_eq_none (by omega), Array.getElem?_eq_none (by omega)]) ⟨hg.os, hg.tape, hg.output⟩
  exact ⟨r', a', r1', r2', x', y', q', ⟨es', c', ho', g2⟩, v'⟩
theorem Sat.newMp (h : Sat w L) : Sat (w.alloc (.map #[] 0)) (Mp P k kenc venc w.heap.size [] :: L) := by
  obtain ⟨r', a', r1', r2', x', y', q', ho', v'⟩ := h.alloc (o := .map #[] 0)
  exact ⟨r', a', r1', r2', x', y', q', ⟨#[], 0, ho', MapKept.stamped_empty 0, by simp, rfl⟩, v'⟩
end
section
variable {P : Program} {n : Nat} {E : Env} {L L' S S' : List HP} {o : Oper} {x y u : Operand} [Tab P] {k : TypeId} {α β : Type} {kenc : α → Value} {venc : β → Value} {ok : α → Prop} {b z t ev' : Nat} {l left : List (α × β)} {r re : Row}
 omit [Tab P] in
theorem Rg.cell {w : World} {cur : Option (α × β)} (h : Sat w (Rg P k kenc venc b z l left cur :: L)) : ∃ es clock since seen c0, Sat w (Own true b (.map es clock) :: Own true z (.mapIter (some b) since seen c0) :: L) ∧ MapKept.Stamped es clock ∧ (∀ e ∈ es.toList, ∃ kl, keyOf P k e.key = some kl) ∧ es.toList.map (fun e => (e.key, e.val)) = l.map (fun p => (kenc p.1, venc p.2)) ∧
    (∀ x ∈ es.toList, x.born < since) ∧ since ≤ c0 ∧ since ≤ clock ∧ ((leftOf es seen).toList.map (fun e => (e.key, e.val))).Perm (left.map fun p => (kenc p.1, venc p.2)) ∧
    (∀ p, cur = some p → c0 = clock ∧ ∃ e ∈ es.toList, (∃ sn : Array Nat, seen = sn.push e.born) ∧ e.key = kenc p.1 ∧ e.val = venc p.2) := by
  obtain ⟨r, a, r1, r2, x, y, q, ⟨es, c, si, sn, c0, ho, h1⟩, v⟩ := h
  exact ⟨es, c, si, sn, c0, ⟨r, a, Stars.app.2 ⟨r1, r2, x, y, q, ho, v⟩⟩, h1⟩
 omit [Tab P] in
theorem Rg.mk {w : World} {es : Array MapEntry} {clock since c0 : Nat} {seen : Array Nat} {cur : Option (α × β)} (h : Sat w (Own true b (.map es clock) :: Own true z (.mapIter (some b) since seen c0) :: L)) (h1 : MapKept.Stamped es clock) (h2 : ∀ e ∈ es.toList, ∃ kl, keyOf P k e.key = some kl) (h3 : es.toList.map (fun e => (e.key, e.val)) = l.map (fun p => (kenc p.1, venc p.2)))
    (h4 : ∀ x ∈ es.toList, x.born < since) (h5 : since ≤ c0) (h6 : since ≤ clock) (h7 : ((leftOf es seen).toList.map (fun e => (e.key, e.val))).Perm (left.map fun p => (kenc p.1, venc p.2)))
    (h8 : ∀ p, cur = some p → c0 = clock ∧ ∃ e ∈ es.toList, (∃ sn : Array Nat, seen = sn.push e.born) ∧ e.key = kenc p.1 ∧ e.val = venc p.2) : Sat w (Rg P k kenc venc b z l left cur :: L) := by
  obtain ⟨r, a, h⟩ := h
  obtain ⟨r1, r2, x, y, q, u, v⟩ := (Stars.app (l := [_, _])).1 h
  exact ⟨r, a, r1, r2, x, y, q, ⟨es, clock, since, seen, c0, u, h1, h2, h3, h4, h5, h6, h7, h8⟩, v⟩
 omit [Tab P] in
theorem Rg.done {cur : Option (α × β)} : Ent (Rg P k kenc venc b z l left cur :: L) (Mp P k kenc venc b l :: L) := .of fun r ⟨es, c, si, sn, c0, ⟨r1, r2, x, y, q, ⟨q', e1, e2⟩, v⟩, h1, h2, h3, _⟩ => by
  obtain ⟨q2, e3, e4⟩ := x b q' _ e1
  exact ⟨es, c, ⟨q2, e3, fun h => e4 (e2 h)⟩, h1, h2, h3⟩
theorem ty_map (ht : ty P t = some r) (hd : r.d = .map k ev') : P.underlying t = some (.map k ev') := by
  obtain ⟨T⟩ := ty_is ht
  rw [← T.map hd]
  first | exact T.under | done
 omit [Tab P] in
theorem zero_of {t : Nat} {v : Value} (h : ((P.info? t).bind (·.zero)) = some v) (w : World) : (zeroValue t).run P w = .ok v w := by
  rw [Option.bind_eq_some_iff] at h
  obtain ⟨i, h1, h2⟩ := h
  simp [zeroValue, typeInfo, h1, h2]
 omit [Tab P] in
theorem N.makeMap (ho : o.op = .makeMap t none) : OpN P n E L o fun v M => ∃ z, v = .map (some z) ∧ M = Mp P k kenc venc z ([] : List (α × β)) :: L := .run fun F w a h1 h2 => by
  refine ⟨_, w.alloc (.map #[] 0), _, ?_, ⟨w.heap.size, rfl, rfl⟩, h2.newMp, .alloc⟩
  unfold execOp; rw [ho]
  simp [Instr.makeMap, newObj]
  rfl
variable [DecidableEq α]
theorem Q.lookup (K : KeyEnc P k kenc ok) {i : α} {zv : Value} (ho : o.op = .lookup t x y false) (ht : ty P t = some r) (hd : r.d = .map k ev') (hz : ∀ w, (zeroValue ev').run P w = .ok zv w) (hx : ev E x = some (.map (some b))) (hy : ev E y = some (kenc i)) (hi : ok i)
    (hp : Pick (Mp P k kenc venc b l) S S') : QOp P n E S o (match kget l i with | some v => venc v | none => zv) := .val fun w a h1 h2 => by
  unfold execOp; rw [ho]
  have := (h2.ent hp.ent).mp.look K (ty_map ht hd) i hi zv hz
  simp [h1.eval hx, h1.eval hy, this]
theorem O.mapUpdate (K : KeyEnc P k kenc ok) {i : α} {v : β} (ho : o.op = .mapUpdate t x y u) (ht : ty P t = some r) (hd : r.d = .map k ev') (hx : ev E x = some (.map (some b))) (hy : ev E y = some (kenc i)) (hu : ev E u = some (venc v)) (hi : ok i)
    (hp : Pick (Mp P k kenc venc b l) L L') : OpS P n E L o (Det undef (Mp P k kenc venc b (kput l i v) :: L')) := .run0 fun F w a h1 h2 => by
  have hs := h2.ent hp.entF
  obtain ⟨w', g1, g2, g3, g4⟩ := hs.mp.put K (ty_map ht hd) i hi v
  refine ⟨w', ?_, hs.putMp g2 g3 g4⟩
  unfold execOp; rw [ho]
  simp [h1.eval hx, h1.eval hy, h1.eval hu, g1]
theorem O.delete (K : KeyEnc P k kenc ok) {i : α} (ho : o.op = .call ⟨.builtin .delete, #[x, y], #[t, k]⟩) (ht : ty P t = some r) (hd : r.d = .map k ev') (hx : ev E x = some (.map (some b))) (hy : ev E y = some (kenc i)) (hi : ok i)
    (hp : Pick (Mp P k kenc venc b l) L L') : OpS P n E L o (Det (.tuple #[]) (Mp P k kenc venc b (kdel l i) :: L')) := .run fun F w a h1 h2 => by
  have hs := h2.ent hp.entF
  obtain ⟨w', g1, g2, g3, g4⟩ := hs.mp.del K (ty_map ht hd) i hi o.type
  refine ⟨_, w', _, ?_, ⟨rfl, rfl⟩, hs.putMp g2 g3 g4⟩
  unfold execOp; rw [ho]
  simp [resolve, invoke, builtin, h1.eval hx, h1.eval hy, g1]
 omit [DecidableEq α]
theorem O.clear (ho : o.op = .call ⟨.builtin .clear, #[x], #[t]⟩) (ht : ty P t = some r) (hd : r.d = .map k ev') (hx : ev E x = some (.map (some b)))
    (hp : Pick (Mp P k kenc venc b l) L L') : OpS P n E L o (Det (.tuple #[]) (Mp P k kenc venc b ([] : List (α × β)) :: L')) := .run fun F w a h1 h2 => by
  have hs := h2.ent hp.entF
  obtain ⟨w', g1, g2, g3, g4⟩ := hs.mp.clear (ty_map ht hd) o.type
  refine ⟨_, w', _, ?_, ⟨rfl, rfl⟩, hs.putMp g2 g3 g4⟩
  unfold execOp; rw [ho]
  simp [resolve, invoke, builtin, h1.eval hx, g1]
theorem Q.lenM (ho : o.op = .call ⟨.builtin .len, #[x], #[t]⟩) (ht : ty P t = some r) (hd : r.d = .map k ev') (hx : ev E x = some (.map (some b))) (hp : Pick (Mp P k kenc venc b l) S S') : QOp P n E S o (.int .i64 l.length) := .val fun w a h1 h2 => by
  have := (h2.ent hp.ent).mp.len (ty_map ht hd) o.type
  unfold execOp; rw [ho]
  simp [resolve, invoke, builtin, h1.eval hx, this]
theorem O.range (ho : o.op = .range t x) (ht : ty P t = some r) (hd : r.d = .map k ev') (hx : ev E x = some (.map (some b))) (hp : Pick (Mp P k kenc venc b l) L L') :
    OpS P n E L o fun v M => ∃ z, v = .pointer (some ⟨z, 0, none⟩) ∧ M = Rg P k kenc venc b z l l none :: L' := .run fun F w a h1 h2 => by
  have hs := h2.ent hp.entF
  obtain ⟨q, hq, r1, r2, p1, p2, p3, ⟨es, c, ho', g1, g2, g3⟩, p4⟩ := hs
  have h0 : Sat w (Own true b (.map es c) :: (L' ++ [F])) := ⟨q, hq, r1, r2, p1, p2, p3, ho', p4⟩
  refine ⟨_, w.alloc (.mapIter (some b) c #[] c), _, ?_, ⟨w.heap.size, rfl, rfl⟩, ?_⟩
  · unfold execOp; rw [ho]
    simp [h1.eval hx, run_range_map w t k ev' b es c (ty_map ht hd) h0.own]
  · refine Rg.mk ((h0.alloc).perm (.swap _ _ _)) g1 g2 g3 g1.1 (Nat.le_refl _) (Nat.le_refl _) ?_ (fun p hp => nomatch hp)
    rw [show leftOf es #[] = es by simp [leftOf], g3]
 omit [Tab P] in
theorem O.next {cur : Option (α × β)} (ho : o.op = .next x false) (hx : ev E x = some (.pointer (some ⟨z, 0, none⟩))) (hp : Pick (Rg P k kenc venc b z l left cur) L L') :
    OpS P n E L o fun v M => (left = [] ∧ v = .tuple #[.bool false] ∧ M = Rg P k kenc venc b z l [] cur :: L') ∨ ∃ p left', left.Perm (p :: left') ∧ v = .tuple #[.bool true, kenc p.1, venc p.2] ∧ M = Rg P k kenc venc b z l left' (some p) :: L' := .run fun F w a h1 h2 => by
  have hs := h2.ent hp.entF
  obtain ⟨es, clock, since, seen, c0, h0, g1, g2, g3, g4, g5, g6, g7, g8⟩ := Rg.cell hs
  have hb := h0.own
  have hz := (h0.perm (.swap _ _ _)).own
  rcases run_next_at (P := P) w o.type z b since c0 seen es clock hz hb g4 g5 with ⟨e0, hrun⟩ | ⟨e, he, w1, hal, hrun⟩
  · have hl : left = [] := by
      have : leftOf es seen = #[] := Array.eq_empty_of_size_eq_zero e0
      rw [this] at g7
      simpa using g7
    subst hl
    refine ⟨_, w, _, ?_, .inl ⟨rfl, rfl, rfl⟩, hs⟩
    unfold execOp; rw [ho]
    simp [h1.eval hx, hrun]
  · obtain ⟨hem, hes⟩ := mem_left he
    have hnd : ((leftOf es seen).toList.map (·.born)).Nodup := by
      unfold leftOf
      rw [Array.toList_filter]
      exact ((List.filter_sublist (l := es.toList)).map _).nodup g1.2.1
    obtain ⟨p, left', hpm, hk, hv, hl'⟩ := map_pairs_perm (perm_filter_born hnd he) g7
    refine ⟨_, ChangeMaps.setBlock w1 z (.mapIter (some b) since (seen.push e.born) clock), _, ?_, .inr ⟨p, left', hpm, rfl, rfl⟩, ?_⟩
    · unfold execOp; rw [ho]
      simp [h1.eval hx, hrun, hk, hv]
    · have hw1 : w1.heap = w.heap := by rcases hal with rfl | rfl <;> rfl
      have hw2 : Outer w w1 := by rcases hal with rfl | rfl <;> exact ⟨rfl, rfl, rfl⟩
      have h0' := (h0.grows (.same hw1 hw2)).perm (.swap _ _ _)
      have h3 := h0'.upd (w' := ChangeMaps.setBlock w1 z (.mapIter (some b) since (seen.push e.born) clock)) (o' := .mapIter (some b) since (seen.push e.born) clock) (by
          simp only [ChangeMaps.setBlock]; rw [Array.getElem?_setIfInBounds_self_of_lt (blk_lt h0'.own)]) (fun i hi => by
          simp only [ChangeMaps.setBlock]; rw [Array.getElem?_setIfInBounds_ne (fun e => hi e.symm)])
      refine Rg.mk (h3.perm (.swap _ _ _)) g1 g2 g3 g4 g6 g6 ?_ (fun p' hp' => ⟨rfl, e, hem, ⟨seen, rfl⟩, ?_⟩)
      · refine List.Perm.trans (List.Perm.of_eq ?_) hl'
        congr 1
        unfold leftOf
        rw [Array.toList_filter, Array.toList_filter, List.filter_filter]
        congr 1
        funext x
        rw [contains_push]
        by_cases hx : x.born = e.born <;> simp [hx]
      · injection hp' with hp'; rw [← hp']; exact ⟨hk, hv⟩
 omit [Tab P] in
theorem Q.entry {p : α × β} (ho : o.op = .entry x) (hx : ev E x = some (.pointer (some ⟨z, 0, none⟩))) (hp : Pick (Rg P k kenc venc b z l left (some p)) S S') : QOp P n E S o (.tuple #[kenc p.1, venc p.2]) := .val fun w a h1 h2 => by
  obtain ⟨es, clock, since, seen, c0, h0, g1, g2, g3, g4, g5, g6, g7, g8⟩ := Rg.cell (h2.ent hp.ent)
  obtain ⟨hc, e, he, ⟨sn, hsn⟩, hk, hv⟩ := g8 p rfl
  subst hc; subst hsn
  have := run_entry_at (P := P) w z b since sn es c0 e (h0.perm (.swap _ _ _)).own h0.own he g1.2.1
  unfold execOp; rw [ho]
  simp [h1.eval hx, this, hk, hv]
def Me (P : Program) (k : TypeId) {α β : Type} [DecidableEq α] (kenc : α → Value) (venc : β → Value) (b : Nat) (l : List (α × β)) (i : α) (st : Nat) : HP := fun r =>
  ∃ es clock, ∃ (j : Nat) (e0 : MapEntry) (l' : List (α × β)), Own true b (.map es clock) r ∧ MapKept.Stamped es clock ∧ (∀ e ∈ es.toList, ∃ kl, keyOf P k e.key = some kl) ∧ es.toList.map (fun e => (e.key, e.val)) = l'.map (fun p => (kenc p.1, venc p.2)) ∧
    es.toList[j]? = some e0 ∧ e0.born = st ∧ e0.key = kenc i ∧ ∀ v, kput l' i v = kput l i v
variable [DecidableEq α]
 omit [Tab P] in
theorem kput_kput (l : List (α × β)) (i : α) (u v : β) : kput (kput l i u) i v = kput l i v := by
  unfold kput
  by_cases h : i ∈ l.map (·.1)
  · simp only [if_pos h]
    have h2 : i ∈ (l.map fun p => if p.1 = i then (i, u) else p).map (·.1) := by
      obtain ⟨p, hp, hpi⟩ := List.mem_map.1 h
      exact List.mem_map.2 ⟨(i, u), List.mem_map.2 ⟨p, hp, by rw [if_pos hpi]⟩, rfl⟩
    rw [if_pos h2, List.map_map]
    apply List.map_congr_left
    intro p _
    by_cases hp : p.1 = i <;> simp [hp]
  · simp only [if_neg h]
    have h2 : i ∈ (l ++ [(i, u)]).map (·.1) := by simp
    rw [if_pos h2, List.map_append]
    congr 1
    · conv => rhs; rw [← List.map_id l]
      apply List.map_congr_left
      intro p hp
      rw [if_neg (fun e => h (List.mem_map.2 ⟨p, hp, e⟩))]; rfl
    · simp
theorem O.mapEntry (K : KeyEnc P k kenc ok) {i : α} {zb : β} (ho : o.op = .mapEntry t x y) (ht : ty P t = some r) (hd : r.d = .map k ev') (hz : ∀ w, (zeroValue ev').run P w = .ok (venc zb) w) (hx : ev E x = some (.map (some b))) (hy : ev E y = some (kenc i)) (hi : ok i)
    (hp : Pick (Mp P k kenc venc b l) L L') : OpS P n E L o fun v M => ∃ (st : Nat) (u : Value), v = .tuple #[u, .int .i64 (st : Int)] ∧ M = Me P k kenc venc b l i st :: L' := .run fun F w a h1 h2 => by
  have hs := h2.ent hp.entF
  obtain ⟨kl, hkey⟩ := K.reads i hi
  have hnd := hs.mp.nodup
  obtain ⟨q, hq, r1, r2, p1, p2, p3, ⟨es, c, ho', g1, g2, g3⟩, p4⟩ := hs
  have h0 : Sat w (Own true b (.map es c) :: (L' ++ [F])) := ⟨q, hq, r1, r2, p1, p2, p3, ho', p4⟩
  have hb := h0.own
  have upd : ∀ o : Obj, Sat (ChangeMaps.setBlock w b o) (Own true b o :: (L' ++ [F])) := fun o => h0.upd (by
      simp only [ChangeMaps.setBlock]; rw [Array.getElem?_setIfInBounds_self_of_lt (blk_lt hb)]) (fun i hi => by
      simp only [ChangeMaps.setBlock]; rw [Array.getElem?_setIfInBounds_ne (fun e => hi e.symm)])
  rcases K.keyed.find w hkey es.toList g2 with ⟨e1, e2⟩ | ⟨j, e0, e1, e2, e3⟩
  · obtain ⟨q', a1, a2, a3, a4, a5, a6, a7, a8⟩ := upd (.map (es.push ⟨kenc i, venc zb, c⟩) (c + 1))
    refine ⟨_, ChangeMaps.setBlock w b (.map (es.push ⟨kenc i, venc zb, c⟩) (c + 1)), _, ?_, ⟨c, venc zb, rfl, rfl⟩, q', a1, a2, a3, a4, a5, a6, ⟨_, _, es.size, ⟨kenc i, venc zb, c⟩, kput l i zb, a7, MapKept.stamped_push g1 e2, ?_, ?_, ?_, rfl, rfl, fun v => kput_kput l i zb v⟩, a8⟩
    · unfold execOp; rw [ho]
      simp [Instr.mapEntry, h1.eval hx, h1.eval hy, run_underlying (ty_map ht hd), MapKept.run_getObj_map hb, K.keyed.check w false hkey, e1, hz w, MapKept.run_setObj_map _ hb, Result.andThen, ChangeMaps.setBlock, goInt]
    · intro e' he'
      simp only [Array.toList_push, List.mem_append, List.mem_singleton] at he'
      rcases he' with he' | rfl
      · exact g2 e' he'
      · exact ⟨kl, hkey⟩
    · unfold kput
      rw [if_neg (find_pairs K.inj i es.toList l g3 e2).2]
      simp [g3]
    · simp
  · have hj : es[j]? = some e0 := by simpa using e2
    have hlist : (es.modify j (fun e' => { e' with key := kenc i })).toList = es.toList := by
      rw [Array.toList_modify, ChangeMaps.modify_eq_set _ _ _ _ e2]
      apply List.ext_getElem?
      intro m
      rw [List.getElem?_set]
      by_cases hm : j = m
      · subst hm
        rw [if_pos rfl, if_pos (List.getElem?_eq_some_iff.1 e2).1, e2, ← e3]
      · rw [if_neg hm]
    have harr : es.modify j (fun e' => { e' with key := kenc i }) = es := by rw [← Array.toArray_toList (xs := es.modify j _), hlist]
    obtain ⟨q', a1, a2, a3, a4, a5, a6, a7, a8⟩ := upd (.map es c)
    refine ⟨_, ChangeMaps.setBlock w b (.map es c), _, ?_, ⟨e0.born, e0.val, rfl, rfl⟩, q', a1, a2, a3, a4, a5, a6, ⟨es, c, j, e0, l, a7, g1, g2, g3, e2, rfl, e3, fun _ => rfl⟩, a8⟩
    unfold execOp; rw [ho]
    simp [Instr.mapEntry, h1.eval hx, h1.eval hy, run_underlying (ty_map ht hd), MapKept.run_getObj_map hb, K.keyed.check w false hkey, e1, hj, e3, harr, K.keyed.stays w hkey, MapKept.run_setObj_map _ hb, Result.andThen, ChangeMaps.setBlock, goInt]
 omit [Tab P] in
theorem O.entryStore {ok : α → Prop} (K : KeyEnc P k kenc ok) {i : α} {v : β} {st : Nat} (ho : o.op = .entryStore t x y u) (hx : ev E x = some (.map (some b))) (hy : ev E y = some (.int .i64 (st : Int))) (hu : ev E u = some (venc v))
    (hp : Pick (Me P k kenc venc b l i st) L L') : OpS P n E L o (Det undef (Mp P k kenc venc b (kput l i v) :: L')) := .run0 fun F w a h1 h2 => by
  have hs := h2.ent hp.entF
  obtain ⟨q, hq, r1, r2, p1, p2, p3, ⟨es, c, j, e0, l', ho', g1, g2, g3, g4, g5, g6, g7⟩, p4⟩ := hs
  have h0 : Sat w (Own true b (.map es c) :: (L' ++ [F])) := ⟨q, hq, r1, r2, p1, p2, p3, ho', p4⟩
  have hb := h0.own
  have hj : es[j]? = some e0 := by simpa using g4
  have hf : es.findIdx? (fun e => (e.born : Int) == (st : Int)) = some j := by
    rw [Array.findIdx?_eq_some_iff_getElem]
    have hjl := (Array.getElem?_eq_some_iff.1 hj)
    refine ⟨hjl.1, by rw [hjl.2, g5]; simp, fun m hm => ?_⟩
    simp only [beq_iff_eq, Bool.not_eq_true, Int.ofNat_inj]
    intro he
    have hn := g1.2.1
    have hml : m < es.size := Nat.lt_trans hm hjl.1
    have h3 : (es.toList.map (·.born))[m]? = some st := by simp [hml, he]
    have h4 : (es.toList.map (·.born))[j]? = some st := by simp [hj, g5]
    have := (List.getElem?_inj (by simpa using hjl.1) hn).1 (h4.trans h3.symm)
    omega
  have hlist : (es.modify j (fun e' => { e' with val := venc v })).toList = es.toList.set j { e0 with val := venc v } := by rw [Array.toList_modify, ChangeMaps.modify_eq_set _ _ _ _ g4]
  obtain ⟨q', a1, a2, a3, a4, a5, a6, a7, a8⟩ := h0.upd (w' := ChangeMaps.setBlock w b (.map (es.modify j (fun e' => { e' with val := venc v })) c)) (o' := .map (es.modify j (fun e' => { e' with val := venc v })) c) (by
      simp only [ChangeMaps.setBlock]; rw [Array.getElem?_setIfInBounds_self_of_lt (blk_lt hb)]) (fun i hi => by
      simp only [ChangeMaps.setBlock]; rw [Array.getElem?_setIfInBounds_ne (fun e => hi e.symm)])
  refine ⟨ChangeMaps.setBlock w b (.map (es.modify j (fun e' => { e' with val := venc v })) c), ?_, q', a1, a2, a3, a4, a5, a6, ⟨_, _, a7, MapKept.stamped_modify g1 _ _ (fun _ _ => rfl) (fun e' _ he' => rfl), ?_, ?_⟩, a8⟩
  · unfold execOp; rw [ho]
    simp [Instr.entryStore, h1.eval hx, h1.eval hy, h1.eval hu, MapKept.run_getObj_map hb, asInt, asIntOf, hf, MapKept.run_setObj_map _ hb, Result.andThen, ChangeMaps.setBlock]
  · intro e' he'
    rw [hlist] at he'
    rcases List.mem_or_eq_of_mem_set he' with he' | rfl
    · exact g2 e' he'
    · exact g2 e0 (List.mem_of_getElem? g4)
  · obtain ⟨p, hp, hpx, hv, hg⟩ := find_at i j es.toList l' e0 g3 K.inj (nodup_pairs g3 g1.2.2) g4 g6
    rw [← g7]
    have hmem : i ∈ l'.map (·.1) := by rw [← hpx]; exact List.mem_map_of_mem (List.mem_of_getElem? hp)
    unfold kput
    rw [if_pos hmem, hlist, List.map_set, g3]
    apply List.ext_getElem?
    intro m
    rw [List.getElem?_set]
    simp only [List.getElem?_map, Option.map_map, Function.comp_def, List.length_map]
    have hnd := nodup_pairs g3 g1.2.2
    by_cases hij : j = m
    · subst hij
      rw [if_pos rfl, if_pos (List.getElem?_eq_some_iff.1 hp).1, hp]
      simp [hpx, g6]
    · rw [if_neg hij]
      cases hli : l'[m]? with
      | none => rfl
      | some q =>
        have hq : q.1 ≠ i := by
          intro e
          have h1 : (l'.map (·.1))[m]? = some i := by simp [hli, e]
          have h2 : (l'.map (·.1))[j]? = some i := by simp [hp, hpx]
          exact hij ((List.getElem?_inj (by simpa using (List.getElem?_eq_some_iff.1 hp).1) hnd).1 (h2.trans h1.symm))
        simp [hq]
end
end Go.SL
