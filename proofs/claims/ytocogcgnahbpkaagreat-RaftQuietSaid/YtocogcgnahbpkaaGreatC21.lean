import Derived.Test.YtocogcgnahbpkaaGreatC16
import Derived.Test.YtocogcgnahbpkaaGreatC20
namespace Go.Proofs.YtocogcgnahbpkaaGreat
open Go.RowKit
theorem MapG.empty {P:Program} {k:TypeId} {α β:Type} {kenc:α→Value} {venc:β→Value} {w:World} {b n:Nat} (h:w.heap[b]?=some (.map #[] n)):MapG P k kenc venc w b ([]:List (α×β)) :=
 ⟨_,_,h,MapKept.stamped_empty n,by simp,rfl⟩
theorem MapF.lt {β:Type} {venc:β→Value} {w:World} {F:Nat→Prop} {r:Option Nat} {l:List (Int×β)} (h:MapF venc w F r l) (i:Nat) (hi:r=some i):i<w.heap.size∧F i:=by
 subst hi;exact ⟨h.2.lt,h.1⟩
theorem ents_one (w:World) (idx term:Int) (A:Option Addr) (n c:Nat) (data:List Int) (S:Nat→Prop) (hS:∀ i,S i→i<w.heap.size) (hd:RowS encB 1 w S A data) (hn:n=data.length) (hl:data.length≤140737488351232) :
  EntsS (w.alloc (.cells #[.int .i64 idx,.int .i64 term,.slice A n c] 67)) (fun i=>i=w.heap.size∨S i) (some ⟨w.heap.size,0,none⟩) [(⟨idx,term,A,n,c⟩,data)]:=by
 refine ⟨.inr ⟨_,_,rfl,.inl rfl,fun k y hk j v hv=>?_⟩,fun p hp=>?_⟩
 ·have hk0:k=0:=by have:=(List.getElem?_eq_some_iff.1 hk).1;simp at this;exact this
  subst hk0
  simp at hk;subst hk
  match j,hv with
  | 0,hv=>simp [encLE] at hv;subst hv;simp
  | 1,hv=>simp [encLE] at hv;subst hv;simp
  | 2,hv=>simp [encLE] at hv;subst hv;simp
 ·simp only [List.mem_singleton] at hp
  subst hp
  exact ⟨(hd.keep fun i hi=>Below.heap_alloc _ _ _ (hS i hi)).mono fun i hi=>.inr hi,hn,hl⟩
theorem turned_term (s:NS) (i:Int):(s.turned i).term=s.term:=by unfold NS.turned;split <;> rfl
theorem turned_id (s:NS) (i:Int):(s.turned i).id=s.id:=by unfold NS.turned;split <;> rfl
theorem lead_maps {W1 W2:World} {F G:Nat→Prop} {b z:Nat} {s:NS} {c:NC} (h:NdAt W1 F G b s c) (hzz:z=W1.heap.size) (hb2:Below W1.heap.size W1 W2) (hz:W2.heap.size=z+3) (h1:W2.heap[z]?=some (.map #[] 0)) (h2:W2.heap[z+1]?=some (.map #[] 0)) (h3:W2.heap[z+1+1]?=some (.map #[] 0)) :
  NdAt (((W2.setCell ⟨b,16,none⟩ (.map (some z))).setCell ⟨b,17,none⟩ (.map (some (z+1)))).setCell ⟨b,18,none⟩ (.map (some (z+1+1)))) (fun i=>F i∨(z≤i∧i<z+3)) G b s { c with mtR:=some z,mt:=[],nxR:=some (z+1),nx:=[],hdR:=some (z+1+1),hd:=[] }:=by
 subst hzz
 have hF:=h.rest.bdF
 have hB2:=(hb2.block b h.lt).trans h.blk
 generalize hzz:W1.heap.size=z at *
 have hbz:=hF b h.hb
 have hot:∀ i,i≠b→(((W2.setCell ⟨b,16,none⟩ (.map (some z))).setCell ⟨b,17,none⟩ (.map (some (z+1)))).setCell ⟨b,18,none⟩ (.map (some (z+1+1)))).heap[i]?=W2.heap[i]?:=fun i hi=>by
  rw [Below.heap_setCell _ _ _ _ hi,Below.heap_setCell _ _ _ _ hi,Below.heap_setCell _ _ _ _ hi]
 have hch0:Chg (fun i=>i=b) W2 (((W2.setCell ⟨b,16,none⟩ (.map (some z))).setCell ⟨b,17,none⟩ (.map (some (z+1)))).setCell ⟨b,18,none⟩ (.map (some (z+1+1)))):=chg1 (chg1 (chg1 Chg.refl _) _) _
 have hch:=(Chg.ofBelow (F:=fun i=>i=b) (a:=W1) (b:=W2) (by rw [hzz];exact hb2)).trans hch0
 have hr:=h.rest
 have K:∀ {β:Type} {venc:β→Value} {r l},MapF venc W1 F r l→MapF venc (((W2.setCell ⟨b,16,none⟩ (.map (some z))).setCell ⟨b,17,none⟩ (.map (some (z+1)))).setCell ⟨b,18,none⟩ (.map (some (z+1+1)))) (fun i=>F i∨(z≤i∧i<z+3)) r l:=fun hm =>
  (hm.keepT fun i hi ⟨es,c,h1⟩=>(hot i (by rintro rfl;rw [h.blk] at h1;cases h1)).trans (hb2.block i (by have:=hF i hi;omega))).mono fun i hi _=>.inl hi
 refine ⟨?_,.inl h.hb,NCAt.remaps (X:=fun i=>i=b) (F:=F) (w:=W1) hr h.blk h.hb hch (fun i hi=>.inl hi) (fun i hi=>.inl hi) ?_ ?_ ?_ ?_ ?_ (K hr.gr) (K hr.rf) (K hr.sn) ?_⟩
 ·exact block_setCell (o:=18) (block_setCell (o:=17) (block_setCell (o:=16) hB2 _) _) _
 ·intro i hi
  rcases hi with hi | hi
  ·exact .inl hi
  ·right;omega
 ·intro i hi
  simp only [World.setCell,Array.size_modify]
  rcases hi with hi | hi
  ·have:=hF i hi;omega
  ·omega
 ·exact ⟨.inr ⟨Nat.le_refl _,by omega⟩,MapG.empty ((hot z (by omega)).trans h1)⟩
 ·exact ⟨.inr ⟨by omega,by omega⟩,MapG.empty ((hot (z+1) (by omega)).trans h2)⟩
 ·exact ⟨.inr ⟨by omega,by omega⟩,MapG.empty ((hot (z+1+1) (by omega)).trans h3)⟩
 ·have ha:=hr.apart
  have l1:=fun i hi=>hF i (hr.gr.lt i hi).2
  have l2:=fun i hi=>hF i (hr.rf.lt i hi).2
  have l3:=fun i hi=>hF i (hr.sn.lt i hi).2
  clear K hot hch h1 h2 h3 hr h hB2 hch0 hb2
  revert ha l1 l2 l3
  rcases c.grR with _ | g <;> rcases c.rfR with _ | f <;> rcases c.snR with _ | n <;> rcases c.mtR with _ | a1 <;> rcases c.nxR with _ | a2 <;> rcases c.hdR with _ | a3 <;> simp <;> omega
theorem stand_maps {W1 W2:World} {F G:Nat→Prop} {b z:Nat} {s:NS} {c:NC} {gr:List (Int×Unit)} (h:NdAt W1 F G b s c) (hzz:z=W1.heap.size) (hb2:Below W1.heap.size W1 W2) (hz:W2.heap.size=z+2) (h1:MB W2 z gr) (h2:MB W2 (z+1) []) :
  NdAt ((W2.setCell ⟨b,21,none⟩ (.map (some z))).setCell ⟨b,22,none⟩ (.map (some (z+1)))) (fun i=>F i∨(z≤i∧i<z+2)) G b s { c with grR:=some z,gr:=gr,rfR:=some (z+1),rf:=[] }:=by
 subst hzz
 have hF:=h.rest.bdF
 have hB2:=(hb2.block b h.lt).trans h.blk
 generalize hzz:W1.heap.size=z at *
 have hbz:=hF b h.hb
 have hot:∀ i,i≠b→((W2.setCell ⟨b,21,none⟩ (.map (some z))).setCell ⟨b,22,none⟩ (.map (some (z+1)))).heap[i]?=W2.heap[i]?:=fun i hi=>by
  rw [Below.heap_setCell _ _ _ _ hi,Below.heap_setCell _ _ _ _ hi]
 have hch0:Chg (fun i=>i=b) W2 ((W2.setCell ⟨b,21,none⟩ (.map (some z))).setCell ⟨b,22,none⟩ (.map (some (z+1)))):=chg1 (chg1 Chg.refl _) _
 have hch:=(Chg.ofBelow (F:=fun i=>i=b) (a:=W1) (b:=W2) (by rw [hzz];exact hb2)).trans hch0
 have hr:=h.rest
 have K:∀ {β:Type} {venc:β→Value} {r l},MapF venc W1 F r l→MapF venc ((W2.setCell ⟨b,21,none⟩ (.map (some z))).setCell ⟨b,22,none⟩ (.map (some (z+1)))) (fun i=>F i∨(z≤i∧i<z+2)) r l:=fun hm =>
  (hm.keepT fun i hi ⟨es,c,h1⟩=>(hot i (by rintro rfl;rw [h.blk] at h1;cases h1)).trans (hb2.block i (by have:=hF i hi;omega))).mono fun i hi _=>.inl hi
 refine ⟨?_,.inl h.hb,NCAt.remaps (X:=fun i=>i=b) (F:=F) (w:=W1) hr h.blk h.hb hch (fun i hi=>.inl hi) (fun i hi=>.inl hi) ?_ ?_ (K hr.mt) (K hr.nx) (K hr.hd) ?_ ?_ (K hr.sn) ?_⟩
 ·exact block_setCell (o:=22) (block_setCell (o:=21) hB2 _) _
 ·intro i hi
  rcases hi with hi | hi
  ·exact .inl hi
  ·right;omega
 ·intro i hi
  simp only [World.setCell,Array.size_modify]
  rcases hi with hi | hi
  ·have:=hF i hi;omega
  ·omega
 ·exact ⟨.inr ⟨Nat.le_refl _,by omega⟩,h1.same (hot z (by omega))⟩
 ·exact ⟨.inr ⟨by omega,by omega⟩,h2.same (hot (z+1) (by omega))⟩
 ·have ha:=hr.apart
  have l1:=fun i hi=>hF i (hr.mt.lt i hi).2
  have l2:=fun i hi=>hF i (hr.nx.lt i hi).2
  have l3:=fun i hi=>hF i (hr.sn.lt i hi).2
  have l4:=fun i hi=>hF i (hr.hd.lt i hi).2
  clear K hot hch h1 h2 hr h hB2 hch0 hb2
  revert ha l1 l2 l3 l4
  rcases c.grR with _ | g <;> rcases c.rfR with _ | f <;> rcases c.snR with _ | n <;> rcases c.mtR with _ | a1 <;> rcases c.nxR with _ | a2 <;> rcases c.hdR with _ | a3 <;> simp <;> omega
def NS.stand1 (s:NS):NS:=NS.rest { s with term:=s.term+1,vote:=s.id,role:=3,leader:=0,heir:=0 }
theorem begin_maps {W1 W2:World} {F G:Nat→Prop} {b z:Nat} {s:NS} {c:NC} {gr:List (Int×Unit)} (h:NdAt W1 F G b s c) (hzz:z=W1.heap.size) (hb2:Below W1.heap.size W1 W2) (hz:W2.heap.size=z+1) (h1:MB W2 z gr) :
  NdAt (W2.setCell ⟨b,21,none⟩ (.map (some z))) (fun i=>F i∨(z≤i∧i<z+1)) G b s { c with grR:=some z,gr:=gr }:=by
 subst hzz
 have hF:=h.rest.bdF
 have hB2:=(hb2.block b h.lt).trans h.blk
 generalize hzz:W1.heap.size=z at *
 have hbz:=hF b h.hb
 have hot:∀ i,i≠b→(W2.setCell ⟨b,21,none⟩ (.map (some z))).heap[i]?=W2.heap[i]?:=fun i hi=>by
  rw [Below.heap_setCell _ _ _ _ hi]
 have hch0:Chg (fun i=>i=b) W2 (W2.setCell ⟨b,21,none⟩ (.map (some z))):=chg1 Chg.refl _
 have hch:=(Chg.ofBelow (F:=fun i=>i=b) (a:=W1) (b:=W2) (by rw [hzz];exact hb2)).trans hch0
 have hr:=h.rest
 have K:∀ {β:Type} {venc:β→Value} {r l},MapF venc W1 F r l→MapF venc (W2.setCell ⟨b,21,none⟩ (.map (some z))) (fun i=>F i∨(z≤i∧i<z+1)) r l:=fun hm =>
  (hm.keepT fun i hi ⟨es,c,h1⟩=>(hot i (by rintro rfl;rw [h.blk] at h1;cases h1)).trans (hb2.block i (by have:=hF i hi;omega))).mono fun i hi _=>.inl hi
 refine ⟨?_,.inl h.hb,NCAt.remaps (X:=fun i=>i=b) (F:=F) (w:=W1) hr h.blk h.hb hch (fun i hi=>.inl hi) (fun i hi=>.inl hi) ?_ ?_ (K hr.mt) (K hr.nx) (K hr.hd) ?_ (K hr.rf) (K hr.sn) ?_⟩
 ·exact block_setCell (o:=21) hB2 _
 ·intro i hi
  rcases hi with hi | hi
  ·exact .inl hi
  ·right;omega
 ·intro i hi
  simp only [World.setCell,Array.size_modify]
  rcases hi with hi | hi
  ·have:=hF i hi;omega
  ·omega
 ·exact ⟨.inr ⟨Nat.le_refl _,by omega⟩,h1.same (hot z (by omega))⟩
 ·have ha:=hr.apart
  have l1:=fun i hi=>hF i (hr.mt.lt i hi).2
  have l2:=fun i hi=>hF i (hr.nx.lt i hi).2
  have l3:=fun i hi=>hF i (hr.sn.lt i hi).2
  have l4:=fun i hi=>hF i (hr.hd.lt i hi).2
  have l5:=fun i hi=>hF i (hr.rf.lt i hi).2
  clear K hot hch h1 hr h hB2 hch0 hb2
  revert ha l1 l2 l3 l4 l5
  rcases c.grR with _ | g <;> rcases c.rfR with _ | f <;> rcases c.snR with _ | n <;> rcases c.mtR with _ | a1 <;> rcases c.nxR with _ | a2 <;> rcases c.hdR with _ | a3 <;> simp <;> omega
structure Grew (w w':World) (F G F' G':Nat→Prop):Prop where
 chg:Chg (fun i=>F i∨G i) w w'
 subF:∀ i,F i→F' i
 subG:∀ i,G i→G' i
 newF:∀ i,F' i→F i∨w.heap.size≤i
 newG:∀ i,G' i→G i∨w.heap.size≤i
theorem Grew.refl {w:World} {F G:Nat→Prop}:Grew w w F G F G:=⟨Chg.refl,fun _ h=>h,fun _ h=>h,fun _ h=>.inl h,fun _ h=>.inl h⟩
theorem Grew.trans {w w1 w2:World} {F G F1 G1 F2 G2:Nat→Prop} (h:Grew w w1 F G F1 G1) (k:Grew w1 w2 F1 G1 F2 G2):Grew w w2 F G F2 G2:=by
 refine ⟨h.chg.trans2 k.chg fun i hi=>?_,fun i hi=>k.subF i (h.subF i hi),fun i hi=>k.subG i (h.subG i hi),fun i hi=>?_,fun i hi=>?_⟩
 ·rcases hi with hi | hi
  ·exact (h.newF i hi).imp .inl id
  ·exact (h.newG i hi).imp .inr id
 ·rcases k.newF i hi with hi | hi
  ·exact h.newF i hi
  ·right;have:=h.chg.size;omega
 ·rcases k.newG i hi with hi | hi
  ·exact h.newG i hi
  ·right;have:=h.chg.size;omega
theorem Grew.below {w w1 w2:World} {F G F1 G1:Nat→Prop} (h:Grew w w1 F G F1 G1) (k:Below w1.heap.size w1 w2):Grew w w2 F G F1 G1:=⟨h.chg.below k,h.subF,h.subG,h.newF,h.newG⟩
theorem Grew.ofChg {w w1:World} {F G F':Nat→Prop} (h:Chg F w w1) (h1:∀ i,F i→F' i) (h2:∀ i,F' i→F i∨w.heap.size≤i):Grew w w1 F G F' G:=⟨h.mono fun _ h=>.inl (.inl h),h1,fun _ h=>h,h2,fun _ h=>.inl h⟩
theorem Grew.said {w w1:World} {F G G':Nat→Prop} {b:Nat} {s:NS} {c c':NC} (h:Said w w1 F G G' b s c c') (hb:F b):Grew w w1 F G F G' :=
 ⟨h.chg.mono fun _ hi=>.inl (hi.elim (fun e=>.inl (e▸hb)) .inr),fun _ h=>h,h.sub,fun _ h=>.inl h,h.sub'⟩
def After (w w':World) (F G:Nat→Prop) (b:Nat) (cf:Rf.Cfg) (draw:Int) (l0:List Rf.Ent) (p:Rf.Nd) (ms:List Rf.Msg):Prop :=
 ∃ F' G',NodeAt w' F' G' b cf draw l0 p ms∧Grew w w' F G F' G'
section
variable {w w1 w2:World} {F G:Nat→Prop} {b:Nat} {cf:Rf.Cfg} {draw:Int} {l0:List Rf.Ent} {p:Rf.Nd} {ms:List Rf.Msg}
theorem NodeAt.below (h:NodeAt w F G b cf draw l0 p ms) (hb:Below w.heap.size w w1):NodeAt w1 F G b cf draw l0 p ms:=by
 obtain ⟨s,c,h1,h2⟩:=h;exact ⟨s,c,h1.below hb,h2⟩
theorem NodeAt.drewN (h:NodeAt w F G b cf draw l0 p ms) (n:Nat):NodeAt (w.drewN n) F G b cf draw l0 p ms:=by
 obtain ⟨s,c,h1,h2⟩:=h;exact ⟨s,c,h1.drewN n,h2⟩
end
theorem MapF.stay {β:Type} {venc:β→Value} {w w':World} {F:Nat→Prop} {r:Option Nat} {l:List (Int×β)} {m:Nat} (h:MapF venc w F r l) (hg:w.grownBy w' (some m)) (hne:r≠some m):MapF venc w' F r l:=by
 cases r with
 | none=>exact h
 | some k=>exact ⟨h.1,h.2.same (hg.block k h.2.lt (fun e=>hne e))⟩
section
variable {w w':World} {F G:Nat→Prop} {b m:Nat} {s:NS} {c:NC}
theorem NdAt.put_mt {l:List (Int×Int)} (h:NdAt w F G b s c) (hm:c.mtR=some m) (hM:MI w' m l) (hg:w.grownBy w' (some m)):NdAt w' F G b s { c with mt:=l }:=by
 have ha:=h.rest.apart
 have hne:c.nxR≠some m∧c.hdR≠some m∧c.grR≠some m∧c.rfR≠some m∧c.snR≠some m:=by
  rw [hm] at ha;clear h hM hg hm;revert ha
  rcases c.nxR with _ | a_nx <;> rcases c.hdR with _ | a_hd <;> rcases c.grR with _ | a_gr <;> rcases c.rfR with _ | a_rf <;> rcases c.snR with _ | a_sn <;> simp <;> omega
 obtain ⟨n_nx,n_hd,n_gr,n_rf,n_sn⟩:=hne
 have hmm:=h.rest.mt
 rw [hm] at hmm
 have hr:=h.rest
 have hbm:m≠b:=hmm.2.ne h.blk
 refine ⟨(hg.block b h.lt (fun e=>hbm (by injection e with e;exact e.symm))).trans h.blk,h.hb,?_⟩
 exact NCAt.remaps (X:=fun i=>i=m) hr h.blk h.hb (Chg.refl.grown hg fun k hk=>.inl (by injection hk with hk;exact hk.symm)) (fun i hi=>.inr (by subst hi;exact ⟨hmm.1,hmm.2.obj⟩)) (fun _ h=>h) (fun _ h=>.inl h) (fun i hi=>Nat.lt_of_lt_of_le (hr.bdF i hi) hg.size) (by rw [hm];exact ⟨hmm.1,hM⟩) (hr.nx.stay hg n_nx) (hr.hd.stay hg n_hd) (hr.gr.stay hg n_gr) (hr.rf.stay hg n_rf) (hr.sn.stay hg n_sn) hr.apart
theorem NdAt.put_nx {l:List (Int×Int)} (h:NdAt w F G b s c) (hm:c.nxR=some m) (hM:MI w' m l) (hg:w.grownBy w' (some m)):NdAt w' F G b s { c with nx:=l }:=by
 have ha:=h.rest.apart
 have hne:c.mtR≠some m∧c.hdR≠some m∧c.grR≠some m∧c.rfR≠some m∧c.snR≠some m:=by
  rw [hm] at ha;clear h hM hg hm;revert ha
  rcases c.mtR with _ | a_mt <;> rcases c.hdR with _ | a_hd <;> rcases c.grR with _ | a_gr <;> rcases c.rfR with _ | a_rf <;> rcases c.snR with _ | a_sn <;> simp <;> omega
 obtain ⟨n_mt,n_hd,n_gr,n_rf,n_sn⟩:=hne
 have hmm:=h.rest.nx
 rw [hm] at hmm
 have hr:=h.rest
 have hbm:m≠b:=hmm.2.ne h.blk
 refine ⟨(hg.block b h.lt (fun e=>hbm (by injection e with e;exact e.symm))).trans h.blk,h.hb,?_⟩
 exact NCAt.remaps (X:=fun i=>i=m) hr h.blk h.hb (Chg.refl.grown hg fun k hk=>.inl (by injection hk with hk;exact hk.symm)) (fun i hi=>.inr (by subst hi;exact ⟨hmm.1,hmm.2.obj⟩)) (fun _ h=>h) (fun _ h=>.inl h) (fun i hi=>Nat.lt_of_lt_of_le (hr.bdF i hi) hg.size) (hr.mt.stay hg n_mt) (by rw [hm];exact ⟨hmm.1,hM⟩) (hr.hd.stay hg n_hd) (hr.gr.stay hg n_gr) (hr.rf.stay hg n_rf) (hr.sn.stay hg n_sn) hr.apart
theorem NdAt.put_hd {l:List (Int×Unit)} (h:NdAt w F G b s c) (hm:c.hdR=some m) (hM:MB w' m l) (hg:w.grownBy w' (some m)):NdAt w' F G b s { c with hd:=l }:=by
 have ha:=h.rest.apart
 have hne:c.mtR≠some m∧c.nxR≠some m∧c.grR≠some m∧c.rfR≠some m∧c.snR≠some m:=by
  rw [hm] at ha;clear h hM hg hm;revert ha
  rcases c.mtR with _ | a_mt <;> rcases c.nxR with _ | a_nx <;> rcases c.grR with _ | a_gr <;> rcases c.rfR with _ | a_rf <;> rcases c.snR with _ | a_sn <;> simp <;> omega
 obtain ⟨n_mt,n_nx,n_gr,n_rf,n_sn⟩:=hne
 have hmm:=h.rest.hd
 rw [hm] at hmm
 have hr:=h.rest
 have hbm:m≠b:=hmm.2.ne h.blk
 refine ⟨(hg.block b h.lt (fun e=>hbm (by injection e with e;exact e.symm))).trans h.blk,h.hb,?_⟩
 exact NCAt.remaps (X:=fun i=>i=m) hr h.blk h.hb (Chg.refl.grown hg fun k hk=>.inl (by injection hk with hk;exact hk.symm)) (fun i hi=>.inr (by subst hi;exact ⟨hmm.1,hmm.2.obj⟩)) (fun _ h=>h) (fun _ h=>.inl h) (fun i hi=>Nat.lt_of_lt_of_le (hr.bdF i hi) hg.size) (hr.mt.stay hg n_mt) (hr.nx.stay hg n_nx) (by rw [hm];exact ⟨hmm.1,hM⟩) (hr.gr.stay hg n_gr) (hr.rf.stay hg n_rf) (hr.sn.stay hg n_sn) hr.apart
theorem NdAt.put_gr {l:List (Int×Unit)} (h:NdAt w F G b s c) (hm:c.grR=some m) (hM:MB w' m l) (hg:w.grownBy w' (some m)):NdAt w' F G b s { c with gr:=l }:=by
 have ha:=h.rest.apart
 have hne:c.mtR≠some m∧c.nxR≠some m∧c.hdR≠some m∧c.rfR≠some m∧c.snR≠some m:=by
  rw [hm] at ha;clear h hM hg hm;revert ha
  rcases c.mtR with _ | a_mt <;> rcases c.nxR with _ | a_nx <;> rcases c.hdR with _ | a_hd <;> rcases c.rfR with _ | a_rf <;> rcases c.snR with _ | a_sn <;> simp <;> omega
 obtain ⟨n_mt,n_nx,n_hd,n_rf,n_sn⟩:=hne
 have hmm:=h.rest.gr
 rw [hm] at hmm
 have hr:=h.rest
 have hbm:m≠b:=hmm.2.ne h.blk
 refine ⟨(hg.block b h.lt (fun e=>hbm (by injection e with e;exact e.symm))).trans h.blk,h.hb,?_⟩
 exact NCAt.remaps (X:=fun i=>i=m) hr h.blk h.hb (Chg.refl.grown hg fun k hk=>.inl (by injection hk with hk;exact hk.symm)) (fun i hi=>.inr (by subst hi;exact ⟨hmm.1,hmm.2.obj⟩)) (fun _ h=>h) (fun _ h=>.inl h) (fun i hi=>Nat.lt_of_lt_of_le (hr.bdF i hi) hg.size) (hr.mt.stay hg n_mt) (hr.nx.stay hg n_nx) (hr.hd.stay hg n_hd) (by rw [hm];exact ⟨hmm.1,hM⟩) (hr.rf.stay hg n_rf) (hr.sn.stay hg n_sn) hr.apart
theorem NdAt.put_rf {l:List (Int×Unit)} (h:NdAt w F G b s c) (hm:c.rfR=some m) (hM:MB w' m l) (hg:w.grownBy w' (some m)):NdAt w' F G b s { c with rf:=l }:=by
 have ha:=h.rest.apart
 have hne:c.mtR≠some m∧c.nxR≠some m∧c.hdR≠some m∧c.grR≠some m∧c.snR≠some m:=by
  rw [hm] at ha;clear h hM hg hm;revert ha
  rcases c.mtR with _ | a_mt <;> rcases c.nxR with _ | a_nx <;> rcases c.hdR with _ | a_hd <;> rcases c.grR with _ | a_gr <;> rcases c.snR with _ | a_sn <;> simp <;> omega
 obtain ⟨n_mt,n_nx,n_hd,n_gr,n_sn⟩:=hne
 have hmm:=h.rest.rf
 rw [hm] at hmm
 have hr:=h.rest
 have hbm:m≠b:=hmm.2.ne h.blk
 refine ⟨(hg.block b h.lt (fun e=>hbm (by injection e with e;exact e.symm))).trans h.blk,h.hb,?_⟩
 exact NCAt.remaps (X:=fun i=>i=m) hr h.blk h.hb (Chg.refl.grown hg fun k hk=>.inl (by injection hk with hk;exact hk.symm)) (fun i hi=>.inr (by subst hi;exact ⟨hmm.1,hmm.2.obj⟩)) (fun _ h=>h) (fun _ h=>.inl h) (fun i hi=>Nat.lt_of_lt_of_le (hr.bdF i hi) hg.size) (hr.mt.stay hg n_mt) (hr.nx.stay hg n_nx) (hr.hd.stay hg n_hd) (hr.gr.stay hg n_gr) (by rw [hm];exact ⟨hmm.1,hM⟩) (hr.sn.stay hg n_sn) hr.apart
end
theorem kget_map (f:Nat→Nat):∀ (l:List Nat) (x:Nat),x∈l→kget (l.map fun (q:Nat)=>((q:Int),((f q:Nat):Int))) (x:Int)=some ((f x:Nat):Int)
 | [],_,h=>by simp at h
 | q :: l,x,h=>by
  unfold kget
  rw [List.map_cons,List.find?_cons]
  by_cases hq:((q:Int))=(x:Int)
  ·have hq':q=x:=by omega
   subst hq'
   simp
  ·have hx:x∈l:=by
    rcases List.mem_cons.1 h with h | h
    ·exact absurd (by rw [h]) hq
    ·exact h
   have:=kget_map f l x hx
   unfold kget at this
   simp only [decide_eq_false hq]
   exact this
section
variable {w w1 w2:World} {F G:Nat→Prop} {b:Nat} {cf:Rf.Cfg} {draw:Int} {l0:List Rf.Ent} {p:Rf.Nd} {ms:List Rf.Msg}
theorem ints_mem {l:List Nat} {x:Int} (h:x∈ints l):∃ k∈l,x=(k:Int):=by
 unfold ints at h
 obtain ⟨k,hk,e⟩:=List.mem_map.1 h
 exact ⟨k,hk,e.symm⟩
theorem others_le {q:Nat} (h:q∈Rf.others cf p.id):1≤q∧q≤cf.n∧q≠p.id:=by
 unfold Rf.others at h
 simp only [List.mem_filter,List.mem_range'_1,decide_eq_true_eq] at h
 simp only [ne_eq] at h
 omega
theorem Rel.said {s:NS} {c c':NC} (h:Rel cf draw s c p) (hc:c'={ c with mA:=c'.mA,mn:=c'.mn,mc:=c'.mc,msgs:=c'.msgs }):Rel cf draw s c' p:=by
 rw [hc];exact ⟨h.id,h.cfg,h.hard,h.zero,h.commit,h.role,h.time,h.draw,h.peers,h.log,h.lead,h.gr,h.rf,h.sn⟩
theorem NodeAt.said {w':World} {G':Nat→Prop} {s:NS} {c c':NC} {new:List Rf.Msg} (hr:Rel cf draw s c p) (hm:c.msgs.map pmOf=ms.map pmR) (hf:FromOK s.from_ l0 p.log) (hS:Said w w' F G G' b s c c') (hn:c'.msgs.map pmOf=c.msgs.map pmOf++new.map pmR) (hb:F b):After w w' F G b cf draw l0 p (ms++new) :=
 ⟨F,G',⟨s,c',hS.nd,hr.said hS.c,by rw [hn,hm,List.map_append],hf⟩,Grew.said hS hb⟩
theorem apps_any (h:NodeAt w F G b cf draw l0 p ms) (hf:Fits cf p) (h4:p.role=4) (hnx:∀ q∈Rf.others cf p.id,1≤p.nx q∧p.nx q≤p.log.length+1) (hml:ms.length≤900) :
  Calls Tryz.prog 98 #[.pointer (some ⟨b,0,none⟩)] w fun e w'=>e=.returned (.tuple #[])∧After w w' F G b cf draw l0 p (ms++Rf.apps cf p):=by
 obtain ⟨s,c,hN,hR,hM,hO⟩:=h
 obtain ⟨⟨_,m,_,_,hm,_⟩,h2,h3,_⟩:=hR.lead h4
 have hlen:=congrArg List.length hM
 simp only [List.length_map] at hlen
 have hpl:=hR.pl
 have hll:=hR.len
 have hbt:=hR.cfg.2.2.2
 have hfb:=hf.batch
 have hfn:=hf.n
 have hff:=hf.fin
 refine (sendAll_any b s c F G w hN (by omega) (fun q=>p.nx q.toNat-1) m hm ?_ hR.zero.1 (by omega) (by omega) (by omega)).mono ?_
 ·intro q hq
  rw [hR.others] at hq
  obtain ⟨k,hk,rfl⟩:=ints_mem hq
  have h5:=others_le hk
  have h6:=hnx k hk
  refine ⟨by unfold okI;omega,?_,?_⟩
  ·rw [h3,kget_map p.nx _ k hk]
   simp only [Int.toNat_natCast]
   congr 1;omega
  ·simp only [Int.toNat_natCast];omega
 ·rintro e w' ⟨rfl,G',c',hS,hms⟩
  refine ⟨rfl,NodeAt.said hR hM hO hS ?_ hN.hb⟩
  rw [hms,hR.others]
  congr 1
  unfold Rf.apps ints
  rw [List.map_map,List.map_map]
  refine List.map_congr_left fun q hq=>?_
  exact appM_app hR (hnx q hq)
theorem app_any (h:NodeAt w F G b cf draw l0 p ms) (hf:Fits cf p) (h4:p.role=4) {q:Nat} (hq:q∈Rf.others cf p.id) (hnx:1≤p.nx q∧p.nx q≤p.log.length+1) (hml:ms.length≤900) :
  Calls Tryz.prog 110 #[.pointer (some ⟨b,0,none⟩),.int .i64 q] w fun e w'=>e=.returned (.tuple #[])∧After w w' F G b cf draw l0 p (ms++[Rf.app cf p q]):=by
 obtain ⟨s,c,hN,hR,hM,hO⟩:=h
 obtain ⟨⟨_,m,_,_,hm,_⟩,h2,h3,_⟩:=hR.lead h4
 have hlen:=congrArg List.length hM
 simp only [List.length_map] at hlen
 have hpl:=hR.pl
 have hll:=hR.len
 have hbt:=hR.cfg.2.2.2
 have hfb:=hf.batch
 have hfn:=hf.n
 have hff:=hf.fin
 have h5:=others_le hq
 refine (sendTo_any b s c F G w hN q (p.nx q-1) m hm (by unfold okI;omega) ?_ hR.zero.1 (by omega) (by omega) (by omega) (by omega)).mono ?_
 ·rw [h3,kget_map p.nx _ q hq]
  congr 1;omega
 ·rintro e w' ⟨rfl,G',c',A,n,k,qs,hS,hms,hqs⟩
  refine ⟨rfl,NodeAt.said hR hM hO hS ?_ hN.hb⟩
  rw [hms,List.map_append,List.map_cons,List.map_nil,List.map_cons,List.map_nil]
  congr 2
  rw [←appM_app hR hnx]
  unfold pmOf MR.pm appM
  rw [hqs]
theorem count_at (h:NodeAt w F G b cf draw l0 p ms) (hf:Fits cf p) (h4:p.role=4) :
  Calls Tryz.prog 105 #[.pointer (some ⟨b,0,none⟩)] w fun e w'=>e=.returned (.tuple #[])∧After w w' F G b cf draw l0 (Rf.count cf p) ms:=by
 obtain ⟨s,c,hN,hR,hM,hO⟩:=h
 obtain ⟨⟨m,_,_,hm,_⟩,h2,_⟩:=hR.lead h4
 have hpl:=hR.pl
 have hll:=hR.len
 have hfn:=hf.n
 have hff:=hf.fin
 have hfc:=hf.commit
 have hsn:=hR.zero.1
 have hcm:=hR.commit
 refine (count_any b s c F G w hN m hm (by omega) (by omega) (by omega) (by omega) (by omega) ?_).mono ?_
 ·rw [h2,List.length_map]
  unfold Rf.others
  exact Nat.le_trans (List.length_filter_le _ _) (by simp;omega)
 ·rintro e w' ⟨rfl,hC,hN'⟩
  refine ⟨rfl,F,G,⟨_,c,hN',?_,hM,hO⟩,Grew.ofChg hC (fun _ h=>h) fun _ h=>.inl h⟩
  have e1:(s.snap+(c.log.length:Int)-s.commit).toNat=p.log.length-p.commit:=by omega
  rw [e1,countFrom_eq hR h4 _ (by omega),Nat.add_sub_cancel' hfc]
  exact ⟨hR.id,hR.cfg,hR.hard,hR.zero,rfl,hR.role,hR.time,hR.draw,hR.peers,hR.log,hR.lead,hR.gr,hR.rf,hR.sn⟩
theorem from_app {fr:Int} {l:List Rf.Ent} (h:FromOK fr l0 l) (r:List Rf.Ent):FromOK (if fr=0∨(l.length:Int)+1<fr then (l.length:Int)+1 else fr) l0 (l++r):=by
 rcases h with ⟨h1,h2⟩ | ⟨k,h1,h2,h3,h4⟩
 ·subst h1 h2
  rw [if_pos (.inl rfl)]
  exact .inr ⟨l.length,rfl,Nat.le_refl _,by simp,by simp⟩
 ·rw [if_neg (by omega)]
  exact .inr ⟨k,h1,h2,by simp;omega,by rw [List.take_append_of_le_length h3];exact h4⟩
end
end Go.Proofs.YtocogcgnahbpkaaGreat
