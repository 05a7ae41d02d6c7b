import Derived.Test.YtocogcgnahbpkaaGreatC15
import Derived.Test.YtocogcgnahbpkaaGreatC29
import Derived.Test.YtocogcgnahbpkaaGreatC31
namespace Go.Proofs.YtocogcgnahbpkaaGreat
open Go.RowKit
section
variable {w w1 w2:World} {F G:Nat→Prop} {b:Nat} {cf:Rf.Cfg} {draw:Int} {l0:List Rf.Ent} {p:Rf.Nd} {ms:List Rf.Msg}
structure Comes (cf:Rf.Cfg) (p:Rf.Nd) (m:Rf.Msg):Prop where
 form:Rf.Form m
 src:1≤m.src∧m.src≤cf.n
 dst:m.dst=p.id
 term:m.term<1000000
 idx:m.idx≤900000
 com:m.commit≤1000000
 hint:m.hint≤1000000
 h3:m.kind=3→m.hint=0
 goes:Rf.goesP m.lt m.es m.term
 r5:m.kind=5→¬ (m.term=p.term∧p.role=4)∧(p.term≤m.term→m.idx=p.commit→m.lt=p.tm p.commit)
 r6:m.kind=6→m.term=p.term→p.role=4→m.rej=false→m.idx≤p.log.length
 len:p.log.length+16≤65536
 pt:p.term<1000000
 gr:p.gr.length≤900
 rf:p.rf.length≤900
 hd:p.hd.length≤900
 nx:p.role=4→∀ q∈Rf.others cf p.id,1≤p.nx q∧p.nx q≤p.log.length+1
 mt:p.role=4→∀ q∈Rf.others cf p.id,p.mt q≤p.log.length
theorem Comes.follow {m:Rf.Msg} (h:Comes cf p m) (hq:p.term<m.term) (l:Nat):Comes cf (Rf.follow cf draw m.term l p) m :=
 ⟨h.form,h.src,h.dst,h.term,h.idx,h.com,h.hint,h.h3,h.goes,fun hk=>⟨fun x=>absurd (show (1:Nat)=4 from x.2) (by decide),fun _ hx=>(h.r5 hk).2 (Nat.le_of_lt hq) hx⟩,
  fun _ _ x=>absurd (show (1:Nat)=4 from x) (by decide),h.len,by show max p.term m.term<1000000;have:=h.term;have:=h.pt;omega,h.gr,h.rf,h.hd,fun x=>absurd (show (1:Nat)=4 from x) (by decide),fun x=>absurd (show (1:Nat)=4 from x) (by decide)⟩
theorem Comes.fits {m:Rf.Msg} (h:Comes cf p m) (hf:Fits cf p) (l:Nat):Fits cf (Rf.follow cf draw m.term l p) :=
 ⟨hf.n,hf.time,hf.batch,hf.id,hf.fin,by show max p.term m.term≤1000000;have:=h.term;have:=h.pt;omega,hf.commit⟩
theorem Comes.others {m:Rf.Msg} (h:Comes cf p m):m.src∈Rf.others cf p.id:=by
 unfold Rf.others
 rw [List.mem_filter]
 exact ⟨List.mem_range'_1.2 (by have:=h.src;omega),by simpa using fun e=>h.form.ne (e.trans h.dst.symm)⟩
theorem Comes.other {m:Rf.Msg} (h:Comes cf p m):isOther cf p m.src=true:=decide_eq_true ⟨fun e=>h.form.ne (e.trans h.dst.symm),h.src⟩
set_option maxRecDepth 100000 in
set_option maxHeartbeats 1000000 in
theorem message_at (h:NodeAt w F G b cf draw l0 p ms) (hf:Fits cf p) (hml:ms.length≤400) (k0 k1 k12 k13 k14 k15:Value) (m:Rf.Msg) (A:Option Addr) (n c:Nat) (hC:Comes cf p m)
  (S:Nat→Prop) (qs:List (LE×List Int)) (hE:EntsS w S A qs) (hS:Apart w S F G) (hqs:qs.map con=numb m.idx m.es) (hn:n=qs.length) (hnc:n≤c) :
  Calls Tryz.prog 73 #[.pointer (some ⟨b,0,none⟩),.agg #[k0,k1,.int .i64 m.kind,.int .i64 m.src,.int .i64 m.dst,.int .i64 m.term,.int .i64 m.idx,.int .i64 m.lt,.int .i64 m.commit,.slice A n c,.bool m.rej,.int .i64 m.hint,k12,k13,k14,k15]] w fun e w'=>e=.returned (.int .i64 0)∧After w w' F G b cf draw l0 (Rf.message cf draw m p).1 (ms++(Rf.message cf draw m p).2):=by
 have hk:=hC.form.kind
 have key:∀ (p':Rf.Nd),((p'=p∧(m.kind=6→m.term=p.term))∨(p.term<m.term∧p'=Rf.follow cf draw m.term (if m.kind=5 then m.src else 0) p))→Fits cf p'∧Comes cf p' m∧(m.kind=6→p'.role=4→m.rej=false→m.idx≤p'.log.length):=by
  rintro p' (⟨rfl,h6⟩ | ⟨hq,rfl⟩)
  ·exact ⟨hf,hC,fun a b d=>hC.r6 a (h6 a) b d⟩
  ·exact ⟨hC.fits hf _,hC.follow hq _,fun _ x=>absurd (show (1:Nat)=4 from x) (by decide)⟩
 have hcase:m.kind=1∨m.kind=2∨m.kind=3∨m.kind=4∨m.kind=5∨m.kind=6:=by omega
 rcases hcase with hk | hk | hk | hk | hk | hk
 ·refine message_walk h hf hml k0 k1 k12 k13 k14 k15 m A n c hC.form hC.other hC.dst (by have:=hC.term;omega) hC.idx hC.com hC.hint hC.h3 S qs hE hS hqs hn hC.goes hC.r5 hC.r6 140 (fun _ _=>by simp [go_sem]) (by rw [hk];rfl) fun W p' hp hN hE' hS'=>?_
  obtain ⟨hf',hC',h6'⟩:=key p' hp
  rw [show Rf.kinds cf draw m p'=Rf.preVote m p' from by unfold Rf.kinds;rw [hk];rfl]
  exact preVote_any hN hf' hml m A n c
 ·refine message_walk h hf hml k0 k1 k12 k13 k14 k15 m A n c hC.form hC.other hC.dst (by have:=hC.term;omega) hC.idx hC.com hC.hint hC.h3 S qs hE hS hqs hn hC.goes hC.r5 hC.r6 141 (fun _ _=>by simp [go_sem]) (by rw [hk];rfl) fun W p' hp hN hE' hS'=>?_
  obtain ⟨hf',hC',h6'⟩:=key p' hp
  rw [show Rf.kinds cf draw m p'=Rf.preReply cf draw m p' from by unfold Rf.kinds;rw [hk];rfl]
  exact preReply_any hN hf' hml m A n c hC'.src (by have:=hC'.len;omega) hC'.pt hC'.gr
 ·refine message_walk h hf hml k0 k1 k12 k13 k14 k15 m A n c hC.form hC.other hC.dst (by have:=hC.term;omega) hC.idx hC.com hC.hint hC.h3 S qs hE hS hqs hn hC.goes hC.r5 hC.r6 142 (fun _ _=>by simp [go_sem]) (by rw [hk];rfl) fun W p' hp hN hE' hS'=>?_
  obtain ⟨hf',hC',h6'⟩:=key p' hp
  rw [show Rf.kinds cf draw m p'=Rf.vote cf draw m p' from by unfold Rf.kinds;rw [hk];rfl]
  exact vote_any hN hf' hml m A n c
 ·refine message_walk h hf hml k0 k1 k12 k13 k14 k15 m A n c hC.form hC.other hC.dst (by have:=hC.term;omega) hC.idx hC.com hC.hint hC.h3 S qs hE hS hqs hn hC.goes hC.r5 hC.r6 143 (fun _ _=>by simp [go_sem]) (by rw [hk];rfl) fun W p' hp hN hE' hS'=>?_
  obtain ⟨hf',hC',h6'⟩:=key p' hp
  rw [show Rf.kinds cf draw m p'=Rf.voteReply cf draw m p' from by unfold Rf.kinds;rw [hk];rfl]
  exact voteReply_any hN hf' hml m A n c hC'.src (by have:=hC'.len;omega) hC'.gr hC'.rf
 ·refine message_walk h hf hml k0 k1 k12 k13 k14 k15 m A n c hC.form hC.other hC.dst (by have:=hC.term;omega) hC.idx hC.com hC.hint hC.h3 S qs hE hS hqs hn hC.goes hC.r5 hC.r6 144 (fun _ _=>by simp [go_sem]) (by rw [hk];rfl) fun W p' hp hN hE' hS'=>?_
  obtain ⟨hf',hC',h6'⟩:=key p' hp
  rw [show Rf.kinds cf draw m p'=Rf.append cf draw m p' from by unfold Rf.kinds;rw [hk];rfl]
  exact append_any hN hf' hml m A n c (by have:=hC'.term;omega) (fun h0=>(hC'.form.zero (.inr (.inr hk))).2 h0) (by have:=hC'.idx;omega) S qs hE' hS' hqs hn hnc hC'.form.len hC'.len
 ·refine message_walk h hf hml k0 k1 k12 k13 k14 k15 m A n c hC.form hC.other hC.dst (by have:=hC.term;omega) hC.idx hC.com hC.hint hC.h3 S qs hE hS hqs hn hC.goes hC.r5 hC.r6 145 (fun _ _=>by simp [go_sem]) (by rw [hk];rfl) fun W p' hp hN hE' hS'=>?_
  obtain ⟨hf',hC',h6'⟩:=key p' hp
  rw [show Rf.kinds cf draw m p'=Rf.appendReply cf m p' from by unfold Rf.kinds;rw [hk];rfl]
  exact appendReply_any hN hf' hml m A n c hC'.others hC'.nx hC'.mt (h6' hk) ⟨by have:=hC'.idx;omega,by have:=hC'.hint;omega⟩
end
def actCells:Array Value:=#[.nilFunc,.func (.func 72) #[] #[],.func (.func 73) #[] #[],.func (.func 74) #[] #[],.func (.func 75) #[] #[],.func (.func 76) #[] #[],.func (.func 77) #[] #[],.func (.func 78) #[] #[]]
set_option maxRecDepth 100000 in
theorem steps_any (w:World):Calls Tryz.prog 56 #[] w fun e w'=>e=.returned (.slice (some ⟨w.heap.size,0,none⟩) 8 8)∧w'=w.alloc (.cells actCells 129):=by
 go_enter Tryz.func56,Tryz.ntmps56
 go_wp2
 go_ret
 exact ⟨rfl,rfl⟩
theorem cells16 {w:World} {b:Nat} {a0 a1 a2 a3 a4 a5 a6 a7 a8 a9 a10 a11 a12 a13 a14 a15:Value} {t:TypeId} (h:w.heap[b]?=some (.cells #[a0,a1,a2,a3,a4,a5,a6,a7,a8,a9,a10,a11,a12,a13,a14,a15] t (0,0))) :
  w.cell? ⟨b,0,none⟩=some a0∧w.cell? ⟨b,1,none⟩=some a1∧w.cell? ⟨b,2,none⟩=some a2∧w.cell? ⟨b,3,none⟩=some a3∧w.cell? ⟨b,4,none⟩=some a4∧w.cell? ⟨b,5,none⟩=some a5∧w.cell? ⟨b,6,none⟩=some a6∧w.cell? ⟨b,7,none⟩=some a7∧w.cell? ⟨b,8,none⟩=some a8∧w.cell? ⟨b,9,none⟩=some a9∧w.cell? ⟨b,10,none⟩=some a10∧w.cell? ⟨b,11,none⟩=some a11∧w.cell? ⟨b,12,none⟩=some a12∧w.cell? ⟨b,13,none⟩=some a13∧w.cell? ⟨b,14,none⟩=some a14∧w.cell? ⟨b,15,none⟩=some a15 :=
 ⟨cell_block h 0 _ rfl,cell_block h 1 _ rfl,cell_block h 2 _ rfl,cell_block h 3 _ rfl,cell_block h 4 _ rfl,cell_block h 5 _ rfl,cell_block h 6 _ rfl,cell_block h 7 _ rfl,cell_block h 8 _ rfl,cell_block h 9 _ rfl,cell_block h 10 _ rfl,cell_block h 11 _ rfl,cell_block h 12 _ rfl,cell_block h 13 _ rfl,cell_block h 14 _ rfl,cell_block h 15 _ rfl⟩
theorem cells12 {w:World} {b:Nat} {a0 a1 a2 a3 a4 a5 a6 a7 a8 a9 a10 a11:Value} {t:TypeId} (h:w.heap[b]?=some (.cells #[a0,a1,a2,a3,a4,a5,a6,a7,a8,a9,a10,a11] t (0,0))) :
  w.cell? ⟨b,0,none⟩=some a0∧w.cell? ⟨b,1,none⟩=some a1∧w.cell? ⟨b,2,none⟩=some a2∧w.cell? ⟨b,3,none⟩=some a3∧w.cell? ⟨b,4,none⟩=some a4∧w.cell? ⟨b,5,none⟩=some a5∧w.cell? ⟨b,6,none⟩=some a6∧w.cell? ⟨b,7,none⟩=some a7∧w.cell? ⟨b,8,none⟩=some a8∧w.cell? ⟨b,9,none⟩=some a9∧w.cell? ⟨b,10,none⟩=some a10∧w.cell? ⟨b,11,none⟩=some a11 :=
 ⟨cell_block h 0 _ rfl,cell_block h 1 _ rfl,cell_block h 2 _ rfl,cell_block h 3 _ rfl,cell_block h 4 _ rfl,cell_block h 5 _ rfl,cell_block h 6 _ rfl,cell_block h 7 _ rfl,cell_block h 8 _ rfl,cell_block h 9 _ rfl,cell_block h 10 _ rfl,cell_block h 11 _ rfl⟩
theorem store12 {w:World} {y:Nat} {a0 a1 a2 a3 a4 a5 a6 a7 a8 a9 a10 a11:Value} {t:TypeId} (h:w.heap[y]?=some (.cells #[a0,a1,a2,a3,a4,a5,a6,a7,a8,a9,a10,a11] t (0,0))) (v0 v1 v2 v3 v4 v5 v6 v7 v8 v9 v10 v11:Value) :
  (((((((((((((w.setCell ⟨y,0,none⟩ v0).setCell ⟨y,1,none⟩ v1).setCell ⟨y,2,none⟩ v2).setCell ⟨y,3,none⟩ v3).setCell ⟨y,4,none⟩ v4).setCell ⟨y,5,none⟩ v5).setCell ⟨y,6,none⟩ v6).setCell ⟨y,7,none⟩ v7).setCell ⟨y,8,none⟩ v8).setCell ⟨y,9,none⟩ v9).setCell ⟨y,10,none⟩ v10).setCell ⟨y,11,none⟩ v11)).heap[y]?=some (.cells #[v0,v1,v2,v3,v4,v5,v6,v7,v8,v9,v10,v11] t (0,0))∧(∀ i,i≠y→(((((((((((((w.setCell ⟨y,0,none⟩ v0).setCell ⟨y,1,none⟩ v1).setCell ⟨y,2,none⟩ v2).setCell ⟨y,3,none⟩ v3).setCell ⟨y,4,none⟩ v4).setCell ⟨y,5,none⟩ v5).setCell ⟨y,6,none⟩ v6).setCell ⟨y,7,none⟩ v7).setCell ⟨y,8,none⟩ v8).setCell ⟨y,9,none⟩ v9).setCell ⟨y,10,none⟩ v10).setCell ⟨y,11,none⟩ v11)).heap[i]?=w.heap[i]?)∧(((((((((((((w.setCell ⟨y,0,none⟩ v0).setCell ⟨y,1,none⟩ v1).setCell ⟨y,2,none⟩ v2).setCell ⟨y,3,none⟩ v3).setCell ⟨y,4,none⟩ v4).setCell ⟨y,5,none⟩ v5).setCell ⟨y,6,none⟩ v6).setCell ⟨y,7,none⟩ v7).setCell ⟨y,8,none⟩ v8).setCell ⟨y,9,none⟩ v9).setCell ⟨y,10,none⟩ v10).setCell ⟨y,11,none⟩ v11)).heap.size=w.heap.size∧(∀ w0:World,Below y w0 w→Below y w0 (((((((((((((w.setCell ⟨y,0,none⟩ v0).setCell ⟨y,1,none⟩ v1).setCell ⟨y,2,none⟩ v2).setCell ⟨y,3,none⟩ v3).setCell ⟨y,4,none⟩ v4).setCell ⟨y,5,none⟩ v5).setCell ⟨y,6,none⟩ v6).setCell ⟨y,7,none⟩ v7).setCell ⟨y,8,none⟩ v8).setCell ⟨y,9,none⟩ v9).setCell ⟨y,10,none⟩ v10).setCell ⟨y,11,none⟩ v11))):=by
 refine ⟨?_,fun i hi=>?_,?_,fun w0 hb=>?_⟩
 ·have e:=(block_setCell (o:=11) (block_setCell (o:=10) (block_setCell (o:=9) (block_setCell (o:=8) (block_setCell (o:=7) (block_setCell (o:=6) (block_setCell (o:=5) (block_setCell (o:=4) (block_setCell (o:=3) (block_setCell (o:=2) (block_setCell (o:=1) (block_setCell (o:=0) h v0) v1) v2) v3) v4) v5) v6) v7) v8) v9) v10) v11)
  rw [e];simp
 ·rw [Below.heap_setCell _ _ _ _ hi,Below.heap_setCell _ _ _ _ hi,Below.heap_setCell _ _ _ _ hi,Below.heap_setCell _ _ _ _ hi,Below.heap_setCell _ _ _ _ hi,Below.heap_setCell _ _ _ _ hi,Below.heap_setCell _ _ _ _ hi,Below.heap_setCell _ _ _ _ hi,Below.heap_setCell _ _ _ _ hi,Below.heap_setCell _ _ _ _ hi,Below.heap_setCell _ _ _ _ hi,Below.heap_setCell _ _ _ _ hi]
 ·simp only [World.setCell,Array.size_modify]
 ·exact ((((((((((((hb.setCell (Nat.le_refl _) _).setCell (Nat.le_refl _) _).setCell (Nat.le_refl _) _).setCell (Nat.le_refl _) _).setCell (Nat.le_refl _) _).setCell (Nat.le_refl _) _).setCell (Nat.le_refl _) _).setCell (Nat.le_refl _) _).setCell (Nat.le_refl _) _).setCell (Nat.le_refl _) _).setCell (Nat.le_refl _) _).setCell (Nat.le_refl _) _)
theorem step_maps {W1 W2:World} {F G:Nat→Prop} {b x:Nat} {s:NS} {c:NC} {draw:Int} (h:NdAt W1 F G b s c) (hb2:Below W1.heap.size W1 W2) (hx:W1.heap.size≤x) (h1:MB W2 x []) (hms:c.msgs=[]∧c.mA=none∧c.mn=0∧c.mc=0) :
  NdAt ((((((W2.setCell ⟨b,23,none⟩ (.int .i64 draw)).setCell ⟨b,24,none⟩ (.slice none 0 0)).setCell ⟨b,25,none⟩ (.map (some x))).setCell ⟨b,26,none⟩ (.int .i64 0)).setCell ⟨b,27,none⟩ (.int .i64 0)).setCell ⟨b,28,none⟩ (.int .i64 0)) (fun i=>F i∨i=x) G b { s with draw:=draw,from_:=0,first:=0,last:=0 } { c with snR:=some x,sn:=[] }:=by
 have hF:=h.rest.bdF
 have hB2:=(hb2.block b h.lt).trans h.blk
 have hbz:=hF b h.hb
 have hxl:=h1.lt
 have hot:∀ i,i≠b→((((((W2.setCell ⟨b,23,none⟩ (.int .i64 draw)).setCell ⟨b,24,none⟩ (.slice none 0 0)).setCell ⟨b,25,none⟩ (.map (some x))).setCell ⟨b,26,none⟩ (.int .i64 0)).setCell ⟨b,27,none⟩ (.int .i64 0)).setCell ⟨b,28,none⟩ (.int .i64 0)).heap[i]?=W2.heap[i]?:=fun i hi=>by
  rw [Below.heap_setCell _ _ _ _ hi,Below.heap_setCell _ _ _ _ hi,Below.heap_setCell _ _ _ _ hi,Below.heap_setCell _ _ _ _ hi,Below.heap_setCell _ _ _ _ hi,Below.heap_setCell _ _ _ _ hi]
 have hch0:Chg (fun i=>i=b) W2 ((((((W2.setCell ⟨b,23,none⟩ (.int .i64 draw)).setCell ⟨b,24,none⟩ (.slice none 0 0)).setCell ⟨b,25,none⟩ (.map (some x))).setCell ⟨b,26,none⟩ (.int .i64 0)).setCell ⟨b,27,none⟩ (.int .i64 0)).setCell ⟨b,28,none⟩ (.int .i64 0)):=chg1 (chg1 (chg1 (chg1 (chg1 (chg1 Chg.refl _) _) _) _) _) _
 have hch:=(Chg.ofBelow (F:=fun i=>i=b) (a:=W1) (b:=W2) hb2).trans hch0
 have hr:=h.rest
 have K:∀ {β:Type} {venc:β→Value} {r l},MapF venc W1 F r l→MapF venc ((((((W2.setCell ⟨b,23,none⟩ (.int .i64 draw)).setCell ⟨b,24,none⟩ (.slice none 0 0)).setCell ⟨b,25,none⟩ (.map (some x))).setCell ⟨b,26,none⟩ (.int .i64 0)).setCell ⟨b,27,none⟩ (.int .i64 0)).setCell ⟨b,28,none⟩ (.int .i64 0)) (fun i=>F i∨i=x) r l:=fun hm =>
  (hm.keepT fun i hi ⟨es,c,h1⟩=>(hot i (by rintro rfl;rw [h.blk] at h1;cases h1)).trans (hb2.block i (hF i hi))).mono fun i hi _=>.inl hi
 refine ⟨?_,.inl h.hb,NCAt.remaps (X:=fun i=>i=b) (F:=F) (w:=W1) hr h.blk h.hb hch (fun i hi=>.inl hi) (fun i hi=>.inl hi) ?_ ?_ (K hr.mt) (K hr.nx) (K hr.hd) (K hr.gr) (K hr.rf) ?_ ?_⟩
 ·have e:=block_setCell (o:=28) (block_setCell (o:=27) (block_setCell (o:=26) (block_setCell (o:=25) (block_setCell (o:=24) (block_setCell (o:=23) hB2 (.int .i64 draw)) (.slice none 0 0)) (.map (some x))) (.int .i64 0)) (.int .i64 0)) (.int .i64 0)
  rw [e]
  obtain ⟨e1,e2,e3,e4⟩:=hms
  simp [ncells,e2,e3,e4]
 ·intro i hi
  rcases hi with hi | hi
  ·exact .inl hi
  ·right;omega
 ·intro i hi
  simp only [World.setCell,Array.size_modify]
  have:=hb2.size
  rcases hi with hi | hi
  ·have:=hF i hi;omega
  ·omega
 ·exact ⟨.inr rfl,h1.same (hot x (by omega))⟩
 ·have ha:=hr.apart
  have l1:=fun i hi=>hF i (hr.mt.lt i hi).2
  have l2:=fun i hi=>hF i (hr.nx.lt i hi).2
  have l3:=fun i hi=>hF i (hr.gr.lt i hi).2
  have l4:=fun i hi=>hF i (hr.hd.lt i hi).2
  have l5:=fun i hi=>hF i (hr.rf.lt i hi).2
  clear K hot hch h1 hr h hB2 hch0 hb2
  revert ha l1 l2 l3 l4 l5
  rcases c.grR with _ | g <;> rcases c.rfR with _ | f <;> rcases c.snR with _ | n <;> rcases c.mtR with _ | a1 <;> rcases c.nxR with _ | a2 <;> rcases c.hdR with _ | a3 <;> simp <;> omega
section
variable {w w1 w2:World} {F G:Nat→Prop} {b:Nat} {cf:Rf.Cfg} {draw:Int} {l0:List Rf.Ent} {p:Rf.Nd} {ms:List Rf.Msg}
structure HandG (P:NS→NC→Prop) (b:Nat) (F:Nat→Prop) (w w':World) (s':NS) (c':NC) (F' G':Nat→Prop):Prop where
 nd:NdAt w' F' G' b s' c'
 p:P s' c'
 chg:Chg F w w'
 sub:∀ i,F i→F' i
 sub':∀ i,F' i→F i∨w.heap.size≤i
 subG:∀ i,G' i→w.heap.size≤i
theorem HandG.from {P:NS→NC→Prop} {b:Nat} {F:Nat→Prop} {W0 w w':World} {s':NS} {c':NC} {F' G':Nat→Prop} (h:HandG P b F w w' s' c' F' G') (hc:Chg F W0 w):HandG P b F W0 w' s' c' F' G' :=
 ⟨h.nd,h.p,hc.trans h.chg,h.sub,fun i hi=>by
  have:=hc.size
  rcases h.sub' i hi with h | h
  ·exact .inl h
  ·right;omega,fun i hi=>Nat.le_trans hc.size (h.subG i hi)⟩
structure StepOK (s':NS) (c':NC):Prop where
 sn:0≤s'.snap∧s'.snap≤1099511627776
 ll:c'.log.length≤65536
 fr:0<s'.from_→s'.snap+1≤s'.from_∧s'.from_≤s'.snap+c'.log.length+1
 pl:c'.peers.length≤7
 pk:∀ q∈c'.peers,okI q
def snapsOf (s':NS) (c':NC):List Int:=(others s'.id c'.peers).filter fun q=>decide (q∈c'.sn.map (·.1))
def readyG (hd:Bool) (s':NS) (c':NC) (eA:Option Addr) (en ec:Nat) (sA:Option Addr) (sn sc:Nat):Value:=.agg #[.int .i64 s'.term,.int .i64 s'.vote,.bool (hd||decide (0<s'.from_)),.int .i64 (if 0<s'.from_ then s'.from_ else s'.snap+c'.ln+1),.slice eA en ec,.slice c'.mA c'.mn c'.mc,.int .i64 s'.commit,.slice sA sn sc,.int .i64 s'.role,.int .i64 s'.leader,.int .i64 s'.first,.int .i64 s'.last]
structure MidG (w wx:World) (F F' G':Nat→Prop) (b y r:Nat) (s':NS) (c':NC) (cs zr:Array Value) (eA:Option Addr) (en ec:Nat) (qs:List (LE×List Int)) (S:Nat→Prop):Prop where
 yb:wx.heap[y]?=some (.cells cs 80 (0,0))
 rb:wx.heap[r]?=some (.cells zr 80 (0,0))
 nd:NdAt wx F' G' b s' c'
 chg:Chg F w wx
 ents:EntsS wx S eA qs
 len:en=qs.length∧en≤ec
 con:qs.map con=if 0<s'.from_ then (c'.log.map con).drop (s'.from_-s'.snap-1).toNat else []
 fresh:∀ i,S i→w.heap.size≤i∧i<wx.heap.size∧¬ F' i∧i≠r∧i≠y
 ny:¬ F' y∧¬ G' y∧w.heap.size≤y∧y≠r
 nr:¬ F' r∧¬ G' r∧w.heap.size≤r
 sub:∀ i,F i→F' i
 sub':∀ i,F' i→F i∨w.heap.size≤i
 subG:∀ i,G' i→w.heap.size≤i
theorem MidG.below {w wx wy:World} {F F' G':Nat→Prop} {b y r:Nat} {s':NS} {c':NC} {cs zr:Array Value} {eA:Option Addr} {en ec:Nat} {qs:List (LE×List Int)} {S:Nat→Prop} (h:MidG w wx F F' G' b y r s' c' cs zr eA en ec qs S) (hb:Below wx.heap.size wx wy):MidG w wy F F' G' b y r s' c' cs zr eA en ec qs S :=
 ⟨(hb.block y (block_lt h.yb)).trans h.yb,(hb.block r (block_lt h.rb)).trans h.rb,h.nd.below hb,h.chg.below hb,h.ents.keep fun i hi=>hb.block i (h.fresh i hi).2.1,h.len,h.con,fun i hi=>⟨(h.fresh i hi).1,Nat.lt_of_lt_of_le (h.fresh i hi).2.1 hb.size,(h.fresh i hi).2.2⟩,h.ny,h.nr,h.sub,h.sub',h.subG⟩
theorem MidG.sety {w wx:World} {F F' G':Nat→Prop} {b y r:Nat} {s':NS} {c':NC} {cs zr:Array Value} {eA:Option Addr} {en ec:Nat} {qs:List (LE×List Int)} {S:Nat→Prop} (h:MidG w wx F F' G' b y r s' c' cs zr eA en ec qs S) (o:Nat) (v:Value):MidG w (wx.setCell ⟨y,o,none⟩ v) F F' G' b y r s' c' (cs.setIfInBounds o v) zr eA en ec qs S:=by
 have hne:∀ i,i≠y→(wx.setCell ⟨y,o,none⟩ v).heap[i]?=wx.heap[i]?:=fun i hi=>Below.heap_setCell _ _ _ _ hi
 have hs:(wx.setCell ⟨y,o,none⟩ v).heap.size=wx.heap.size:=by simp only [World.setCell,Array.size_modify]
 exact ⟨block_setCell h.yb _,(hne r fun e=>h.ny.2.2.2 e.symm).trans h.rb,h.nd.keep (Nat.le_of_eq hs.symm) fun i hi _=>hne i fun e=>by subst e;rcases hi with hi | hi;exact h.ny.1 hi;exact h.ny.2.1 hi,h.chg.setCell (.inr h.ny.2.2.1) _,h.ents.keep fun i hi=>hne i (h.fresh i hi).2.2.2.2,h.len,h.con,fun i hi=>by rw [hs];exact h.fresh i hi,h.ny,h.nr,h.sub,h.sub',h.subG⟩
theorem MidG.grown {w wx wy:World} {F F' G':Nat→Prop} {b y r:Nat} {s':NS} {c':NC} {cs zr:Array Value} {eA:Option Addr} {en ec:Nat} {qs:List (LE×List Int)} {S:Nat→Prop} (h:MidG w wx F F' G' b y r s' c' cs zr eA en ec qs S) {row:Option Nat} (hg:wx.grownBy wy row) (hr:∀ k,row=some k→w.heap.size≤k∧¬ F' k∧¬ G' k∧¬ S k∧k≠y∧k≠r):MidG w wy F F' G' b y r s' c' cs zr eA en ec qs S:=by
 have hk:∀ i,i<wx.heap.size→row≠some i→wy.heap[i]?=wx.heap[i]?:=fun i hi hn=>hg.block i hi fun e=>hn e.symm
 refine ⟨(hk y (block_lt h.yb) fun e=>(hr y e).2.2.2.2.1 rfl).trans h.yb,(hk r (block_lt h.rb) fun e=>(hr r e).2.2.2.2.2 rfl).trans h.rb,h.nd.keep hg.size fun i hi hl=>hk i hl fun e=>by rcases hi with hi | hi;exact (hr i e).2.1 hi;exact (hr i e).2.2.1 hi,h.chg.grown hg fun k e=>.inr (hr k e).1,h.ents.keep fun i hi=>hk i (h.fresh i hi).2.1 fun e=>(hr i e).2.2.2.1 hi,h.len,h.con,fun i hi=>⟨(h.fresh i hi).1,Nat.lt_of_lt_of_le (h.fresh i hi).2.1 hg.size,(h.fresh i hi).2.2⟩,h.ny,h.nr,h.sub,h.sub',h.subG⟩
def NC.hush (c:NC):NC:={ c with mA:=none,mn:=0,mc:=0,msgs:=[] }
structure SteppedG (P:NS→NC→Prop) (w w':World) (F:Nat→Prop) (b:Nat) (s':NS) (c':NC) (F' G':Nat→Prop) (eA:Option Addr) (en ec:Nat) (qs:List (LE×List Int)) (sA:Option Addr) (sn sc:Nat) (S:Nat→Prop):Prop where
 nd:NdAt w' F' (fun _=>False) b s' c'.hush
 p:P s' c'
 chg:Chg F w w'
 sub:∀ i,F i→F' i
 sub':∀ i,F' i→F i∨w.heap.size≤i
 msgs:MsgsF w' G' (.slice c'.mA c'.mn c'.mc) c'.msgs
 ents:EntsS w' S eA qs
 len:en=qs.length∧en≤ec
 con:qs.map con=if 0<s'.from_ then (c'.log.map con).drop (s'.from_-s'.snap-1).toNat else []
 snaps:Own encI 1 3 w' w.heap.size (.slice sA sn sc) (snapsOf s' c')
 fresh:∀ i,S i∨G' i→w.heap.size≤i∧i<w'.heap.size∧¬ F' i
theorem NdAt.hush {w w':World} {F G:Nat→Prop} {b:Nat} {s:NS} {c:NC} (h:NdAt w F G b s c) (hc:∀ i,i≠b→F i→i<w.heap.size→w'.heap[i]?=w.heap[i]?) (hs:w.heap.size≤w'.heap.size) (hb:w'.heap[b]?=some (.cells (ncells s c.hush) 126 (0,0))):NdAt w' F (fun _=>False) b s c.hush:=by
 have hr:=h.rest
 have hbt:∀ (cur:Array Value) (t:TypeId) (i:Nat),w.heap[i]?=some (Obj.cells cur t (0,0))→t≠126→i≠b:=by
  rintro cur t i h1 h2 rfl
  exact h2 (ne_typed h1 h.blk)
 have hbm:∀ (i:Nat) es cl,w.heap[i]?=some (Obj.map es cl)→i≠b:=by
  rintro i es cl h1 rfl
  rw [h.blk] at h1;cases h1
 have M:∀ {β:Type} {venc:β→Value} {r:Option Nat} {l:List (Int×β)},MapF venc w F r l→MapF venc w' F r l:=fun hm=>hm.keepT fun i hi ⟨es,cl,h1⟩=>hc i (hbm i es cl h1) hi (block_lt h1)
 refine ⟨hb,h.hb,⟨fun i hi=>Nat.lt_of_lt_of_le (hr.bdF i hi) hs,fun i hi=>hi.elim,fun i _ hi=>hi,hr.peers.same fun k e=>?_,hr.peersF,hr.log.keepT fun i hi ⟨cur,t,h1,h2⟩=>hc i (hbt cur t i h1 (by rcases h2 with rfl | rfl <;> decide)) hi (block_lt h1),M hr.mt,M hr.nx,M hr.hd,M hr.gr,M hr.rf,M hr.sn,MsgsF.nil,hr.apart⟩⟩
 obtain ⟨cur,h1⟩:=hr.peers.typed k e
 exact hc k (hbt cur 3 k h1 (by decide)) (hr.peersF k e) (block_lt h1)
theorem row_one_I (w:World) (q:Int):Row encI 1 (w.alloc (.cells #[.int .i64 q] 3)) (w.heap.size+1) (some ⟨w.heap.size,0,none⟩) [q] :=
 .inr ⟨_,_,rfl,by omega,fun k y hk j v hv=>by
  have hk0:k=0:=by have:=(List.getElem?_eq_some_iff.1 hk).1;simp at this;exact this
  subst hk0
  simp at hk;subst hk
  match j,hv with
  | 0,hv=>simp [encI] at hv;subst hv;simp⟩
theorem zero4':∀ w,(zeroValue 4).run Tryz.prog w=.ok (.bool false) w:=fun w=>by kernel_rfl
theorem sn_look {w:World} {F:Nat→Prop} {r:Option Nat} {l:List (Int×Unit)} (h:MapF (fun _=>Value.bool true) w F r l) (q:Int) (hq:okI q):(Instr.lookup 53 (.map r) (.int .i64 q) false).run Tryz.prog w=.ok (.bool (decide (q∈l.map (·.1)))) w:=by
 cases r with
 | none =>
  have hl:l=[]:=h
  subst hl
  obtain ⟨kl,hk⟩:=KI.reads q hq
  have:=run_look_nil (P:=Tryz.prog) Tryz.underlying53 KI.keyed hk (.bool false) zero4' w (fun w=>by simp [Instr.findKey,Instr.findNow])
  simpa using this
 | some m =>
  have h1:=MapG.look KI h.2 Tryz.underlying53 q hq (.bool false) zero4'
  rw [h1]
  by_cases hm:q∈l.map (·.1)
  ·rw [decide_eq_true hm]
   obtain ⟨p,hp,e⟩:=List.mem_map.1 hm
   have:(l.find? fun p=>p.1=q).isSome=true:=List.find?_isSome.2 ⟨p,hp,by simpa using e⟩
   obtain ⟨p',hp'⟩:=Option.isSome_iff_exists.1 this
   simp [kget,hp']
  ·rw [decide_eq_false hm]
   have:l.find? (fun p=>p.1=q)=none:=by
    rw [List.find?_eq_none]
    intro p hp
    simp only [decide_eq_true_eq]
    exact fun e=>hm (e▸List.mem_map_of_mem hp)
   simp [kget,this]
end
end Go.Proofs.YtocogcgnahbpkaaGreat
