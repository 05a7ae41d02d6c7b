/-
  A part of the proof of what E53 says at its head.
-/
import Derived.Test.YtocogcgnahbpkaaGreatE16
namespace Go.SL
open Go.Proofs Go.Proofs.YtocogcgnahbpkaaGreat
open Rs (Nd)
attribute [local irreducible] W RS RG RD Fn FnQ OpS QOp Own Sat Rd Gr Mp Rg Lg Ms Es Nod Rp
set_option maxRecDepth 10000
structure LB where
  data : List Int
  A : Option Addr
  c : Nat
def vB (x : LB) : Value := .slice x.A x.data.length x.c
def DReadB (D : HP) (l : List LB) : Prop := ∀ r, D r → ∀ x ∈ l, Rd false x.A (x.data.map bc) r
section
variable {c : Cfg} {h : HW} {s : Nd} {x : EX} {p bs : Nat} {d : Int} {l0 : List Rf.Ent} {fl : Nat × Nat} {ms : List Rf.Msg} {m : Rf.Msg} {A : Option Addr} {cp : Nat}
def newE (s : Nd) (l : List LB) : List Rf.Ent := l.map fun b => ⟨s.term, b.data⟩
theorem propose_eq {l : List LB} : Rs.propose c (l.map (·.data)) s = (Rs.count c (upN s (newE s l)), Rs.apps c (Rs.count c (upN s (newE s l)))) := by
  unfold Rs.propose newE upN; rw [List.map_map]; rfl
theorem upN_upN {a b : List Rf.Ent} : upN (upN s a) b = upN s (a ++ b) := by unfold upN; simp
theorem propose_ok {e : EV} {l : List LB} {X D : HP} (hs : Sn c s) (hl : LdN c s) (hX : Reads X e.dA (l.map vB)) (hD : DReadB D l) (hn : e.dn = l.length) (hr : s.role = 4) (hh0 : s.heir = 0) (hk : 1 ≤ l.length ∧ l.length ≤ 16) (hf : s.log.length + l.length < 65536) (hd : ∀ b ∈ l, b.data.length ≤ 140737488351232) (hm : ms.length ≤ 300) :
    Fn Tryz.prog 74 [pt p, .agg (encV e).toArray].toArray [NodS p c bs d s.log fl s ms, X, D]
    (Det (iv 0) [NodS p c bs d s.log (s.log.length + 1, s.log.length + e.dn) (Rs.propose c (l.map (·.data)) s).1 (ms ++ (Rs.propose c (l.map (·.data)) s).2), X, D]) := by
  rw [propose_eq]
  have hsf := hs.fin
  refine Fn.enter Tryz.func74 rfl (by kernel_rfl) rfl ?_
  refine run ?_
  refine .box fun z => ?_
  refine run ?_
  refine .first (NodS p c bs d s.log fl s ms) ?_
  refine .nod fun h hh => ?_
  have hln := hh.1
  have hE : FnQ Tryz.prog 57 [pt p].toArray [Nb true p c h s ⟨d, ms.length, fr s.log s.log, fl.1, fl.2⟩] (nv s.log.length) := end_q (hs.at hh)
  refine .callQ (within_t (a := e.dn) (lo := 1) (hi := 16) (by omega) (by omega)) ?_
  refine run ?_
  refine .callQ hE ?_
  refine run ?_
  refine .callQ hE ?_
  refine run ?_
  refine .callQ hE ?_
  refine run ?_
  refine .shutS (l0 := s.log) (d := d) (ms := ms) (bs := bs) (c := c) (p := p) (fl := (s.log.length + 1, s.log.length + e.dn)) h h s s hh ?_
  generalize hfl : (s.log.length + 1, s.log.length + e.dn) = fl'
  refine W.loopH (ι := Nat) (fun k => k ≤ l.length) (fun k => [(0, pt p), (3, pt z), (56, .slice e.dA e.dn e.dc), (57, nv e.dn), (58, nv k)])
    (fun k => [NodS p c bs d s.log fl' (upN s (newE s (l.take k))) ms, X, D]) (fun k => l.length - k) 0 (Nat.zero_le _) subs (by rw [show upN s (newE s (l.take 0)) = s by simp [newE, upN]]; exact Picks.sub picks) ?_
  intro k hk ih
  have hlk : (newE s (l.take k)).length = k := by unfold newE; rw [List.length_map, List.length_take]; omega
  have hdk : ∀ n, ∀ e ∈ newE s (l.take n), e.data.length ≤ 140737488351232 := fun n e he => by
    unfold newE at he
    obtain ⟨b, hb, rfl⟩ := List.mem_map.1 he
    exact hd b (List.mem_of_mem_take hb)
  have hsk : Sn c (upN s (newE s (l.take k))) := hs.up (by omega) (by omega) (hdk k)
  have hlog : (upN s (newE s (l.take k))).log.length = s.log.length + k := by show (s.log ++ _).length = _; rw [List.length_append, hlk]
  by_cases hlt : k < l.length
  · obtain ⟨y, hy⟩ : ∃ y, l[k]? = some y := ⟨_, List.getElem?_eq_getElem hlt⟩
    have hym := List.mem_of_getElem? hy
    have hnk : newE s (l.take (k + 1)) = newE s (l.take k) ++ [⟨s.term, y.data⟩] := by unfold newE; rw [List.take_add_one, hy, List.map_append]; rfl
    refine .first X ?_
    refine W.fact (fun w h => IsA.of (k := k) hX .hd (by simpa using hlt) h) fun hA => ?_
    refine run ?_
    refine .quiet rfl rfl rfl (R.load (v := vB y) rfl rfl rfl rfl hX pick (by rw [Nat.mul_one]; simp [hy])) ?_
    refine run ?_
    refine .first (NodS p c bs d s.log fl' (upN s (newE s (l.take k))) ms) ?_
    refine .nod fun h hh => ?_
    have hsm := hsk.at hh
    have hE : FnQ Tryz.prog 57 [pt p].toArray [Nb true p c h (upN s (newE s (l.take k))) ⟨d, ms.length, fr s.log (upN s (newE s (l.take k))).log, fl'.1, fl'.2⟩] (nv (s.log.length + k)) := by rw [← hlog]; exact end_q hsm
    refine W.plan [2] mixed (by rfl) (by kernel_rfl) ?_
    refine run ?_
    refine .callQ hE ?_
    refine run ?_
    refine .lit fun z2 => ?_
    refine run ?_
    refine .callE (join_ok (x := ⟨d, ms.length, fr s.log (upN s (newE s (l.take k))).log, fl'.1, fl'.2⟩) (p := p) (s := upN s (newE s (l.take k))) (h := h) (l := [⟨⟨((s.log.length + k : Nat) : Int) + 1, s.term, y.data⟩, y.A, y.c⟩]) (cp := 1) (X := Blk true z2 (encLE ⟨⟨((s.log.length + k : Nat) : Int) + 1, s.term, y.data⟩, y.A, y.c⟩) 67) (D := D) (new := [⟨s.term, y.data⟩]) hsm .own (fun r hr y' hy' => by rw [List.mem_singleton.1 hy']; exact hD r hr y hym) (by rw [hlog]; rfl) (by rw [hlog]; show s.log.length + k - s.snap + 1 ≤ _; omega) (fun e he => by rw [List.mem_singleton.1 he]; exact hd y hym)) ?_
    rintro v L ⟨rfl, A3, c3, rfl⟩
    refine run ?_
    have hh3 : HwOk bs (upN (upN s (newE s (l.take k))) [⟨s.term, y.data⟩]) { h with lA := A3, lc := c3, ln := h.ln + 1 } := by
      refine ⟨?_, ?_, hh.2.2⟩
      · have := Sm.mk' hsk
        show h.ln + 1 = ((upN s (newE s (l.take k))).log ++ _).length - (upN s (newE s (l.take k))).snap
        rw [List.length_append, hh.1, List.length_singleton]; omega
      · exact hh.2.1.trans (tm_app (Sm.mk' hsk)).symm
    refine .shut (x := ⟨d, ms.length, fj (fr s.log (upN s (newE s (l.take k))).log) (upN s (newE s (l.take k))).log.length [⟨s.term, y.data⟩], fl'.1, fl'.2⟩) (c := c) (p := p) (bs := bs) (ms := ms) { h with lA := A3, lc := c3, ln := h.ln + 1 } h (upN (upN s (newE s (l.take k))) [⟨s.term, y.data⟩]) (upN s (newE s (l.take k))) hh3 ?_
    have e1 : NodS p c bs d s.log fl' (upN s (newE s (l.take (k + 1)))) ms = Nod p c bs (upN (upN s (newE s (l.take k))) [⟨s.term, y.data⟩]) ⟨d, ms.length, fj (fr s.log (upN s (newE s (l.take k))).log) (upN s (newE s (l.take k))).log.length [⟨s.term, y.data⟩], fl'.1, fl'.2⟩ ms := by
      rw [upN_upN, ← hnk]
      refine NodS.eq rfl ?_
      rw [hnk]
      show fr s.log (s.log ++ (newE s (l.take k) ++ _)) = fj (fr s.log (s.log ++ newE s (l.take k))) (s.log ++ newE s (l.take k)).length _
      rw [fj_fr, List.append_assoc]
    have h2 := ih (k + 1) hlt (by omega)
    rw [e1] at h2
    exact .back h2
  · have hkl : k = l.length := by omega
    have hkk : l.take k = l := by rw [hkl, List.take_length]
    rw [hkk] at hsk hlog ⊢
    refine run ?_
    refine .callD (count_n (s := upN s (newE s l)) (p := p) (c := c) (bs := bs) (x := ⟨d, ms.length, fr s.log (upN s (newE s l)).log, fl'.1, fl'.2⟩) (ms := ms) hsk hr) ?_
    refine run ?_
    refine .callD (sendAll_n (s := Rs.count c (upN s (newE s l))) (p := p) (c := c) (bs := bs) (d := d) (l0 := s.log) (fl := fl') (ms := ms) hsk.count hr (fun y hy => ⟨(hl y hy).1, by have := (hl y hy).2; show s.nx y ≤ (upN s (newE s l)).log.length + 1; omega⟩) (by omega)) ?_
    refine run ?_
    exact .retD Tryz.func74
theorem propose_e {e : EV} {l : List LB} (hs : Sn c s) (hn : e.dn = l.length) (hk : l.length ≤ 140737488351232) (hr : Rs.refuse (l.map (·.data)) s ≠ 0) :
    Fn Tryz.prog 74 [pt p, .agg (encV e).toArray].toArray [NodS p c bs d l0 fl s ms] (Det (nv (Rs.refuse (l.map (·.data)) s)) [NodS p c bs d l0 fl s ms]) := by
  have hsf := hs.fin
  unfold Rs.refuse at hr ⊢
  rw [List.length_map] at hr ⊢
  refine Fn.enter Tryz.func74 rfl (by kernel_rfl) rfl ?_
  refine run ?_
  refine .box fun z => ?_
  refine run ?_
  by_cases h1 : 1 ≤ l.length ∧ l.length ≤ 16
  · rw [if_neg (by simpa using h1)] at hr ⊢
    refine .callQ (within_t (a := e.dn) (lo := 1) (hi := 16) (by omega) (by omega)) ?_
    refine .first (NodS p c bs d l0 fl s ms) ?_
    refine .nod fun h hh => ?_
    have hln := hh.1
    have hE : FnQ Tryz.prog 57 [pt p].toArray [Nb true p c h s ⟨d, ms.length, fr l0 s.log, fl.1, fl.2⟩] (nv s.log.length) := end_q (hs.at hh)
    by_cases h2 : s.role ≠ 4
    · rw [if_pos h2]
      refine run ?_
      refine .shutS (l0 := l0) h h s s hh ?_
      exact .retD Tryz.func74
    · rw [if_neg h2] at hr ⊢
      by_cases h3 : s.heir ≠ 0
      · rw [if_pos h3]
        refine run ?_
        refine .shutS (l0 := l0) h h s s hh ?_
        exact .retD Tryz.func74
      · rw [if_neg h3] at hr ⊢
        refine run ?_
        refine .callQ hE ?_
        by_cases h4 : 1099511627776 < s.fin + l.length
        · rw [if_pos h4]
          have h4' : 1099511627776 < s.log.length + l.length := h4
          refine run ?_
          refine .shutS (l0 := l0) h h s s hh ?_
          exact .retD Tryz.func74
        · rw [if_neg h4] at hr ⊢
          have h4' : ¬ 1099511627776 < s.log.length + l.length := h4
          by_cases h5 : 65536 < s.fin - s.snap + l.length
          · rw [if_pos h5]
            have h5' : 65536 < s.log.length - s.snap + l.length := h5
            refine run ?_
            refine .shutS (l0 := l0) h h s s hh ?_
            exact .retD Tryz.func74
          · rw [if_neg h5] at hr
            exact absurd rfl hr
  · rw [if_pos (by simpa using h1)]
    refine .callQ (within_f (a := e.dn) (lo := 1) (hi := 16) (by omega)) ?_
    refine run ?_
    exact .retD Tryz.func74
end
end Go.SL
namespace Go.SL
open Go.Proofs Go.Proofs.YtocogcgnahbpkaaGreat
open Rs (Nd)
attribute [local irreducible] W RS RG RD Fn FnQ OpS QOp Own Sat Rd Gr Mp Rg Lg Ms Es Nod Rp
set_option maxRecDepth 10000
section
variable {c : Cfg} {h : HW} {s : Nd} {x : EX} {p bs : Nat} {d : Int} {l0 : List Rf.Ent} {fl : Nat × Nat} {ms : List Rf.Msg} {m : Rf.Msg} {A : Option Addr} {cp : Nat}
theorem nilLg {i : Nat} {L : List HP} : Ent L (Lg none 0 0 i [] :: L) := Ent.mk fun _ => Lg.nil
theorem reply_n {i : Nat} (hm : ms.length ≤ 500) : Fn Tryz.prog 157 [pt p, .agg (encM m A cp).toArray, nv i].toArray [NodS p c bs d l0 fl s ms] (Det (.tuple #[]) [NodS p c bs d l0 fl s (ms ++ [Rs.re s m 6 s.term i false 0])]) := by
  refine Fn.enter Tryz.func157 rfl (by kernel_rfl) rfl ?_
  refine run ?_
  refine .box fun z => ?_
  refine run ?_
  refine .ent (nilLg (i := i)) ?_
  refine .callD (send_n (to := m.src) (m := { kind := 6, src := 0, dst := 0, term := 0, idx := i }) (A := none) (cp := 0) (c := c) (s := s) (p := p) (bs := bs) (d := d) (l0 := l0) (fl := fl) (ms := ms) hm (by show 6 ≠ 7; omega)) ?_
  refine run ?_
  exact .doneD Tryz.func157
theorem reject_n {i : Nat} (hm : ms.length ≤ 500) : Fn Tryz.prog 158 [pt p, .agg (encM m A cp).toArray, nv i].toArray [NodS p c bs d l0 fl s ms] (Det (.tuple #[]) [NodS p c bs d l0 fl s (ms ++ [Rs.re s m 6 s.term m.idx true i])]) := by
  refine Fn.enter Tryz.func158 rfl (by kernel_rfl) rfl ?_
  refine run ?_
  refine .box fun z => ?_
  refine run ?_
  refine .ent (nilLg (i := m.idx)) ?_
  refine .callD (send_n (to := m.src) (m := { kind := 6, src := 0, dst := 0, term := 0, idx := m.idx, rej := true, hint := i }) (A := none) (cp := 0) (c := c) (s := s) (p := p) (bs := bs) (d := d) (l0 := l0) (fl := fl) (ms := ms) hm (by show 6 ≠ 7; omega)) ?_
  refine run ?_
  exact .doneD Tryz.func158
theorem old_n (hm : ms.length ≤ 500) : Fn Tryz.prog 102 [pt p, .agg (encM m A cp).toArray].toArray [NodS p c bs d l0 fl s ms] (Det (.tuple #[]) [NodS p c bs d l0 fl s (ms ++ Rs.old m s)]) := by
  unfold Rs.old
  refine Fn.enter Tryz.func102 rfl (by kernel_rfl) rfl ?_
  refine run ?_
  refine .box fun z => ?_
  by_cases h5 : m.kind = 5
  · rw [if_pos (.inl h5)]
    refine run ?_
    refine .ent (nilLg (i := m.idx)) ?_
    refine .callD (send_n (to := m.src) (m := { kind := 6, src := 0, dst := 0, term := 0, idx := m.idx, rej := true }) (A := none) (cp := 0) (c := c) (s := s) (p := p) (bs := bs) (d := d) (l0 := l0) (fl := fl) (ms := ms) hm (by show 6 ≠ 7; omega)) ?_
    refine run ?_
    exact .doneD Tryz.func102
  · by_cases h7 : m.kind = 7
    · rw [if_pos (.inr h7)]
      refine run ?_
      refine .ent (nilLg (i := m.idx)) ?_
      refine .callD (send_n (to := m.src) (m := { kind := 6, src := 0, dst := 0, term := 0, idx := m.idx, rej := true }) (A := none) (cp := 0) (c := c) (s := s) (p := p) (bs := bs) (d := d) (l0 := l0) (fl := fl) (ms := ms) hm (by show 6 ≠ 7; omega)) ?_
      refine run ?_
      exact .doneD Tryz.func102
    · rw [if_neg (by omega)]
      by_cases h1 : m.kind = 1
      · rw [if_pos h1]
        refine run ?_
        refine .ent (nilLg (i := 0)) ?_
        refine .callD (send_n (to := m.src) (m := { kind := 2, src := 0, dst := 0, term := 0, rej := true }) (A := none) (cp := 0) (c := c) (s := s) (p := p) (bs := bs) (d := d) (l0 := l0) (fl := fl) (ms := ms) hm (by show 2 ≠ 7; omega)) ?_
        refine run ?_
        exact .doneD Tryz.func102
      · rw [if_neg h1]
        by_cases h3 : m.kind = 3
        · rw [if_pos h3]
          refine run ?_
          refine .ent (nilLg (i := 0)) ?_
          refine .callD (send_n (to := m.src) (m := { kind := 4, src := 0, dst := 0, term := 0, rej := true }) (A := none) (cp := 0) (c := c) (s := s) (p := p) (bs := bs) (d := d) (l0 := l0) (fl := fl) (ms := ms) hm (by show 4 ≠ 7; omega)) ?_
          refine run ?_
          exact .doneD Tryz.func102
        · rw [if_neg h3, List.append_nil]
          refine run ?_
          exact .doneD Tryz.func102
theorem preVote_n (hs : Sn c s) (hm : ms.length ≤ 500) : Fn Tryz.prog 140 [pt p, .agg (encM m A cp).toArray].toArray [NodS p c bs d l0 fl s ms] (Det (.tuple #[]) [NodS p c bs d l0 fl (Rs.preVote m s).1 (ms ++ (Rs.preVote m s).2)]) := by
  unfold Rs.preVote
  refine Fn.enter Tryz.func140 rfl (by kernel_rfl) rfl ?_
  refine run ?_
  refine .box fun z => ?_
  refine run ?_
  refine .first (NodS p c bs d l0 fl s ms) ?_
  refine .nod fun h hh => ?_
  refine W.plan [11] mixed (by rfl) (by kernel_rfl) ?_
  by_cases h1 : s.term < m.term
  · refine run ?_
    refine .callQ (good_q (m := m) (A := A) (cp := cp) (hs.at hh)) ?_
    cases hg : Rs.good m s with
    | true =>
      rw [if_pos ⟨h1, rfl⟩]
      refine run ?_
      refine .shutS (l0 := l0) h h s s hh ?_
      refine .ent (nilLg (i := 0)) ?_
      have e : Rs.re s m 2 m.term 0 false 0 = sent s m.src { kind := 2, src := 0, dst := 0, term := m.term } := by unfold sent Rs.re; rw [if_neg (by show m.term ≠ 0; omega)]
      dsimp only
      rw [e]
      refine .callD (send_n (to := m.src) (m := { kind := 2, src := 0, dst := 0, term := m.term }) (A := none) (cp := 0) (c := c) (s := s) (p := p) (bs := bs) (d := d) (l0 := l0) (fl := fl) (ms := ms) hm (by show 2 ≠ 7; omega)) ?_
      refine run ?_
      exact .retD Tryz.func140
    | false =>
      rw [if_neg (by simp)]
      refine run ?_
      refine .shutS (l0 := l0) h h s s hh ?_
      refine .ent (nilLg (i := 0)) ?_
      refine .callD (send_n (to := m.src) (m := { kind := 2, src := 0, dst := 0, term := 0, rej := true }) (A := none) (cp := 0) (c := c) (s := s) (p := p) (bs := bs) (d := d) (l0 := l0) (fl := fl) (ms := ms) hm (by show 2 ≠ 7; omega)) ?_
      refine run ?_
      exact .doneD Tryz.func140
  · rw [if_neg (by omega)]
    refine run ?_
    refine .shutS (l0 := l0) h h s s hh ?_
    refine .ent (nilLg (i := 0)) ?_
    refine .callD (send_n (to := m.src) (m := { kind := 2, src := 0, dst := 0, term := 0, rej := true }) (A := none) (cp := 0) (c := c) (s := s) (p := p) (bs := bs) (d := d) (l0 := l0) (fl := fl) (ms := ms) hm (by show 2 ≠ 7; omega)) ?_
    refine run ?_
    exact .doneD Tryz.func140
end
end Go.SL
namespace Go.SL
open Go.Proofs Go.Proofs.YtocogcgnahbpkaaGreat
open Rs (Nd)
attribute [local irreducible] W RS RG RD Fn FnQ OpS QOp Own Sat Rd Gr Mp Rg Lg Ms Es Nod Rp
set_option maxRecDepth 10000
section
variable {c : Cfg} {h : HW} {s : Nd} {x : EX} {p bs : Nat} {d : Int} {l0 : List Rf.Ent} {fl : Nat × Nat} {ms : List Rf.Msg} {m : Rf.Msg} {A : Option Addr} {cp : Nat}
theorem put_len {l : List Nat} {x : Nat} : (Rs.put l x).length ≤ l.length + 1 := by unfold Rs.put; split <;> simp
theorem preReply_n (hs : Sn c s) (hm : ms.length ≤ 300) (hsr : m.src ≤ 5) (hg : s.gr.length ≤ 1000) (hr : s.log.length < 65536) (ht : s.term < 1099511627776) :
    Fn Tryz.prog 141 [pt p, .agg (encM m A cp).toArray].toArray [NodS p c bs d s.log fl s ms] (Det (.tuple #[]) [NodS p c bs d s.log fl (Rs.preReply c d m s).1 (ms ++ (Rs.preReply c d m s).2)]) := by
  unfold Rs.preReply
  have hpl := put_len (l := s.gr) (x := m.src)
  refine Fn.enter Tryz.func141 rfl (by kernel_rfl) rfl ?_
  refine run ?_
  refine .box fun z => ?_
  refine run ?_
  refine .first (NodS p c bs d s.log fl s ms) ?_
  refine .nod fun h hh => ?_
  refine W.plan [] mixed (by rfl) (by kernel_rfl) ?_
  by_cases h2 : s.role = 2
  · cases hj : m.rej with
    | true =>
      rw [if_pos (by simp)]
      refine run ?_
      refine RG.hit 13 rfl (by rw [hj] : _ = .bool true) ?_
      refine run ?_
      refine .shutS (l0 := s.log) h h s s hh ?_
      dsimp only; rw [List.append_nil]
      exact .retD Tryz.func141
    | false =>
      by_cases ht2 : m.term = s.term + 1
      · rw [if_neg (by simp [h2, ht2])]
        refine run ?_
        refine RG.hit 13 rfl (by rw [hj] : _ = .bool false) ?_
        refine run ?_
        refine .first (Rp c h s) ?_
        refine .rp2 h2 fun bg g1 => ?_
        refine W.plan [] mixed (by rfl) (by kernel_rfl) ?_
        refine run ?_
        refine .putB (b := bg) (l := s.gr) m.src (by unfold okN; omega) ?_ (hx := by rw [← g1]; exact rfl)
        refine run ?_
        refine .lenB (b := bg) (l := Rs.put s.gr m.src) ?_ (hx := by rw [← g1]; exact rfl)
        refine .callQ (v := .bool (Rs.maj c (Rs.put s.gr m.src).length)) (maj_q (c := c) (h := h) (s := s) (x := ⟨d, ms.length, fr s.log s.log, fl.1, fl.2⟩) (p := p) (q := true) (Rs.put s.gr m.src).length (by omega)) ?_
        have hs1 : Sn c { s with gr := Rs.put s.gr m.src } := hs.el' rfl rfl rfl rfl rfl hs.el
        refine .ent ((Picks.ent (a := [MB bg (Rs.put s.gr m.src)]) picks).trans (Rp.c2 (c := c) (h := h) (s := { s with gr := Rs.put s.gr m.src }) h2 g1)) ?_
        refine .shutS (l0 := s.log) h h { s with gr := Rs.put s.gr m.src } { s with gr := Rs.put s.gr m.src } hh ?_
        dsimp only
        cases hmj : Rs.maj c (Rs.put s.gr m.src).length with
        | true =>
          rw [if_pos rfl]
          refine run ?_
          refine .callD (stand_ok (b := false) (s := { s with gr := Rs.put s.gr m.src }) (c := c) (p := p) (d := d) (fl := fl) (ms := ms) (bs := bs) hs1 hm hr ht) ?_
          refine run ?_
          exact .doneD Tryz.func141
        | false =>
          rw [if_neg (by simp)]
          dsimp only; rw [List.append_nil]
          refine run ?_
          exact .doneD Tryz.func141
      · rw [if_pos (by simp [ht2])]
        refine run ?_
        refine RG.hit 13 rfl (by rw [hj] : _ = .bool false) ?_
        refine run ?_
        refine .shutS (l0 := s.log) h h s s hh ?_
        dsimp only; rw [List.append_nil]
        exact .retD Tryz.func141
  · rw [if_pos (.inl h2)]
    refine run ?_
    refine .shutS (l0 := s.log) h h s s hh ?_
    dsimp only; rw [List.append_nil]
    exact .retD Tryz.func141
theorem vote_n (hs : Sn c s) (hm : ms.length ≤ 300) :
    Fn Tryz.prog 142 [pt p, .agg (encM m A cp).toArray].toArray [NodS p c bs d l0 fl s ms] (Det (.tuple #[]) [NodS p c bs d l0 fl (Rs.vote c d m s).1 (ms ++ (Rs.vote c d m s).2)]) := by
  unfold Rs.vote
  have hcf := hs.cf
  refine Fn.enter Tryz.func142 rfl (by kernel_rfl) rfl ?_
  refine run ?_
  refine .box fun z => ?_
  refine run ?_
  refine .first (NodS p c bs d l0 fl s ms) ?_
  refine .nod fun h hh => ?_
  have hG := good_q (x := ⟨d, ms.length, fr l0 s.log, fl.1, fl.2⟩) (p := p) (q := true) (m := m) (A := A) (cp := cp) (hs.at hh)
  have hS : ∀ s1, Fn Tryz.prog 138 _ _ _ := fun s1 => send_n (to := m.src) (m := { kind := 4, src := 0, dst := 0, term := 0, rej := true }) (A := none) (cp := 0) (c := c) (s := s1) (p := p) (bs := bs) (d := d) (l0 := l0) (fl := fl) (ms := ms) (by omega) (by show 4 ≠ 7; omega)
  refine W.plan [] mixed (by rfl) (by kernel_rfl) ?_
  by_cases h1 : s.vote = m.src ∨ (s.vote = 0 ∧ s.leader = 0)
  · have hrun : ∀ {K : Prop}, K → K := id
    by_cases h2 : s.vote = m.src
    case' pos =>
      refine run ?_
    case' neg =>
      obtain ⟨h3, h4⟩ := h1.resolve_left h2
      refine run ?_
    all_goals
      refine .callQ hG ?_
      cases hg : Rs.good m s with
      | true =>
        rw [if_pos ⟨rfl, h1⟩]
        refine run ?_
        refine .callD (rest_ok (c := c) (h := h) (x := ⟨d, ms.length, fr l0 s.log, fl.1, fl.2⟩) (s := { s with vote := m.src }) hcf) ?_
        refine run ?_
        refine .shutS (l0 := l0) h h (Rs.rest c d { s with vote := m.src }) s hh ?_
        refine .ent (nilLg (i := 0)) ?_
        refine .callD (send_n (to := m.src) (m := { kind := 4, src := 0, dst := 0, term := 0 }) (A := none) (cp := 0) (c := c) (s := Rs.rest c d { s with vote := m.src }) (p := p) (bs := bs) (d := d) (l0 := l0) (fl := fl) (ms := ms) (by omega) (by show 4 ≠ 7; omega)) ?_
        refine run ?_
        exact .retD Tryz.func142
      | false =>
        rw [if_neg (by simp)]
        refine run ?_
        refine .shutS (l0 := l0) h h s s hh ?_
        refine .ent (nilLg (i := 0)) ?_
        refine .callD (hS s) ?_
        refine run ?_
        exact .doneD Tryz.func142
  · rw [if_neg (fun hc => h1 hc.2)]
    have h2 : s.vote ≠ m.src := fun e => h1 (.inl e)
    by_cases h3 : s.vote = 0
    case' pos =>
      have h4 : s.leader ≠ 0 := fun e => h1 (.inr ⟨h3, e⟩)
      refine run ?_
    case' neg =>
      refine run ?_
    all_goals
      refine .callQ hG ?_
      cases hg : Rs.good m s
      all_goals
        refine run ?_
        refine .shutS (l0 := l0) h h s s hh ?_
        refine .ent (nilLg (i := 0)) ?_
        refine .callD (hS s) ?_
        refine run ?_
        exact .doneD Tryz.func142
end
end Go.SL
