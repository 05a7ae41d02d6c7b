import Derived.Test.YtocogcgnahbpkaaGreatC3
import Derived.Test.YtocogcgnahbpkaaGreatC12
import Derived.Test.YtocogcgnahbpkaaGreatC21
import Derived.Test.YtocogcgnahbpkaaGreatC28
namespace Go.Proofs.YtocogcgnahbpkaaGreat
open Go.RowKit
section
variable {w w1 w2:World} {F G:Nat→Prop} {b:Nat} {cf:Rf.Cfg} {draw:Int} {l0:List Rf.Ent} {p:Rf.Nd} {ms:List Rf.Msg}
set_option maxRecDepth 100000 in
set_option maxHeartbeats 4000000 in
theorem far_no (h:NodeAt w F G b cf draw l0 p ms) (hf:Fits cf p) (k0 k1 m0 m1 m2 m3 m4 m5 m6 m7 m8 m9 k12 k14 k15:Value) (q:Nat) (ho:isOther cf p q=false) :
  Calls Tryz.prog 78 #[.pointer (some ⟨b,0,none⟩),.agg #[k0,k1,m0,m1,m2,m3,m4,m5,m6,m7,m8,m9,k12,.int .i64 (q:Int),k14,k15]] w fun e w'=>e=.returned (.int .i64 161)∧Below w.heap.size w w':=by
 have HF:=ld hf
 have HBW:=ld (below_one w (.cells #[k0,k1,m0,m1,m2,m3,m4,m5,m6,m7,m8,m9,k12,.int .i64 (q:Int),k14,k15] 61))
 have HND:=ld (h.below (below_one w (.cells #[k0,k1,m0,m1,m2,m3,m4,m5,m6,m7,m8,m9,k12,.int .i64 (q:Int),k14,k15] 61)))
 have HGR:=ld ((Grew.refl (w:=w) (F:=F) (G:=G)).below (below_one w (.cells #[k0,k1,m0,m1,m2,m3,m4,m5,m6,m7,m8,m9,k12,.int .i64 (q:Int),k14,k15] 61)))
 have HZ:Hid ((w.alloc (.cells #[k0,k1,m0,m1,m2,m3,m4,m5,m6,m7,m8,m9,k12,.int .i64 (q:Int),k14,k15] 61)).heap[w.heap.size]?=some (.cells #[k0,k1,m0,m1,m2,m3,m4,m5,m6,m7,m8,m9,k12,.int .i64 (q:Int),k14,k15] 61 (0,0))):=ld (World.alloc_at w _)
 obtain ⟨z,hz⟩:∃ z,z=w.heap.size:=⟨_,rfl⟩
 have HFZ:Hid (¬ (F z∨G z)):=ld (BoxAt.fresh h hz)
 rw [←hz] at HZ
 have HO:=ld ho
 clear h hf ho
 go_enter Tryz.func78,Tryz.ntmps78
 go_upto_region 1 with (fail)
 rw [←hz]
 generalize w.alloc (.cells #[k0,k1,m0,m1,m2,m3,m4,m5,m6,m7,m8,m9,k12,.int .i64 (q:Int),k14,k15] 61)=W at HND HGR HZ HBW ⊢
 clear hz
 have z13:W.cell? ⟨z,13,none⟩=some (.int .i64 (q:Int)):=cell_block HZ.out 13 _ rfl
 go_wp2_with (fail)
 refine (isOther_any HND.out HF.out q).mono ?_
 rintro e w1 ⟨rfl,n1,rfl⟩
 rw [HO.out]
 go_wp2
 go_ret
 exact ⟨rfl,below_drewN' HBW.out n1⟩
end
structure BR where
 A:Option Addr
 n:Nat
 c:Nat
def encBR (x:BR):List Value:=[.slice x.A x.n x.c]
structure DataS (w:World) (S:Nat→Prop) (A:Option Addr) (ds:List (BR×List Int)):Prop where
 row:RowS encBR 1 w S A (ds.map (·.1))
 each:∀ p∈ds,RowS encB 1 w S p.1.A p.2∧p.1.n=p.2.length∧p.2.length≤140737488351232
theorem DataS.keep {w w':World} {S:Nat→Prop} {A:Option Addr} {ds:List (BR×List Int)} (h:DataS w S A ds) (hk:∀ i,S i→w'.heap[i]?=w.heap[i]?):DataS w' S A ds:=⟨h.row.keep hk,fun p hp=>⟨(h.each p hp).1.keep hk,(h.each p hp).2⟩⟩
theorem data_at {w:World} {S:Nat→Prop} {k:Nat} {A:Option Addr} {ds:List (BR×List Int)} {p:BR×List Int} (h:DataS w S A ds) (hk:ds[k]?=some p) :
  ∃ b o,A=some ⟨b,o,none⟩∧S b∧w.cell? ⟨b,o+k,none⟩=some (.slice p.1.A p.1.n p.1.c):=by
 rcases h.row with h0 | ⟨b,o,hA,hb,hc⟩
 ·have:ds=[]:=by simpa using h0
  subst this;simp at hk
 ·exact ⟨b,o,hA,hb,by simpa using hc k p.1 (by rw [List.getElem?_map,hk];rfl) 0 _ rfl⟩
section
variable {w w1 w2:World} {F G:Nat→Prop} {b:Nat} {cf:Rf.Cfg} {draw:Int} {l0:List Rf.Ent} {p:Rf.Nd} {ms:List Rf.Msg}
theorem NodeAt.setFL (h:NodeAt w F G b cf draw l0 p ms) (x y:Int):NodeAt ((w.setCell ⟨b,27,none⟩ (.int .i64 x)).setCell ⟨b,28,none⟩ (.int .i64 y)) F G b cf draw l0 p ms:=by
 obtain ⟨s,c,hN,h,h2⟩:=h
 exact ⟨{ s with first:=x,last:=y },c,hN.scal (chg1 (chg1 Chg.refl _) _) (block_setCell (o:=28) (block_setCell (o:=27) hN.blk _) _),⟨h.id,h.cfg,h.hard,h.zero,h.commit,h.role,h.time,h.draw,h.peers,h.log,h.lead,h.gr,h.rf,h.sn⟩,h2⟩
theorem Rf.grow_fits {cf:Rf.Cfg} {p:Rf.Nd} (h:Fits cf p) (l:List Rf.Ent) (hl:p.log.length+l.length≤65536):Fits cf { p with log:=p.log++l } :=
 ⟨h.n,h.time,h.batch,h.id,by show (p.log++l).length≤_;rw [List.length_append];exact hl,h.term,by show p.commit≤(p.log++l).length;rw [List.length_append];have:=h.commit;omega⟩
theorem DataS.grew {w w':World} {S F G F' G':Nat→Prop} {A:Option Addr} {ds:List (BR×List Int)} (h:DataS w S A ds) (ha:Apart w S F G) (g:Grew w w' F G F' G'):DataS w' S A ds :=
 h.keep fun i hi=>g.chg.keep (ha i hi).1 (fun hfg=>hfg.elim (ha i hi).2.1 (ha i hi).2.2)
set_option maxRecDepth 100000 in
set_option maxHeartbeats 4000000 in
theorem propose_yes (h:NodeAt w F G b cf draw l0 p ms) (hf:Fits cf p) (hml:ms.length≤400) (k0 k1 m0 m1 m2 m3 m4 m5 m6 m7 m8 m9 k13 k14 k15:Value) (dA:Option Addr) (dn dc:Nat) (ds:List (BR×List Int)) (S:Nat→Prop) (hd:DataS w S dA ds) (hS:Apart w S F G) (hdn:dn=ds.length) (h1:1≤ds.length) (h2:ds.length≤16) (h4:p.role=4) (hll:p.log.length+16≤65536)
  (hnx:∀ q∈Rf.others cf p.id,1≤p.nx q∧p.nx q≤p.log.length+1) :
  Calls Tryz.prog 74 #[.pointer (some ⟨b,0,none⟩),.agg #[k0,k1,m0,m1,m2,m3,m4,m5,m6,m7,m8,m9,.slice dA dn dc,k13,k14,k15]] w fun e w'=>e=.returned (.int .i64 0)∧After w w' F G b cf draw l0 (Rf.propose cf (ds.map (·.2)) p).1 (ms++(Rf.propose cf (ds.map (·.2)) p).2):=by
 subst hdn
 have HF:=ld hf
 have HBW:=ld (below_one w (.cells #[k0,k1,m0,m1,m2,m3,m4,m5,m6,m7,m8,m9,.slice dA ds.length dc,k13,k14,k15] 61))
 have HND:=ld (h.below (below_one w (.cells #[k0,k1,m0,m1,m2,m3,m4,m5,m6,m7,m8,m9,.slice dA ds.length dc,k13,k14,k15] 61)))
 have HGR:=ld ((Grew.refl (w:=w) (F:=F) (G:=G)).below (below_one w (.cells #[k0,k1,m0,m1,m2,m3,m4,m5,m6,m7,m8,m9,.slice dA ds.length dc,k13,k14,k15] 61)))
 have HZ:Hid ((w.alloc (.cells #[k0,k1,m0,m1,m2,m3,m4,m5,m6,m7,m8,m9,.slice dA ds.length dc,k13,k14,k15] 61)).heap[w.heap.size]?=some (.cells #[k0,k1,m0,m1,m2,m3,m4,m5,m6,m7,m8,m9,.slice dA ds.length dc,k13,k14,k15] 61 (0,0))):=ld (World.alloc_at w _)
 obtain ⟨z,hz⟩:∃ z,z=w.heap.size:=⟨_,rfl⟩
 have HFZ:Hid (¬ (F z∨G z)):=ld (BoxAt.fresh h hz)
 rw [←hz] at HZ
 have HDS:=ld (hd.grew hS HGR.out)
 have HAP:=ld (hS.grew HGR.out)
 have HML:=ld hml
 have HNX:=ld hnx
 have HLL:=ld hll
 have c12:=HND.out.c12
 have c20:=HND.out.c20
 rw [h4] at c12
 have H4:=ld h4
 have HE57:Hid (∀ nn,Calls Tryz.prog 57 #[.pointer (some ⟨b,0,none⟩)] ((w.alloc (.cells #[k0,k1,m0,m1,m2,m3,m4,m5,m6,m7,m8,m9,.slice dA ds.length dc,k13,k14,k15] 61)).drewN nn) fun e w'=>e=.returned (.int .i64 p.log.length)∧∃ n,w'=((w.alloc (.cells #[k0,k1,m0,m1,m2,m3,m4,m5,m6,m7,m8,m9,.slice dA ds.length dc,k13,k14,k15] 61)).drewN nn).drewN n):=ld fun nn=>end_at (HND.out.drewN nn) HF.out
 obtain ⟨fn,hfn⟩:∃ fn,fn=p.log.length:=⟨_,rfl⟩
 rw [←hfn] at HE57
 have hfb:fn+16≤65536:=by omega
 have HFN:=ld hfn
 obtain ⟨lA,ln,lk,ls,c8,x1,x2,x3,hln,x4⟩:=HND.out.log8
 clear x1 x2 x3 x4
 obtain rfl:fn=ln:=by omega
 have g3:decide (1≤(ds.length:Int)∧(ds.length:Int)≤16)=true:=decide_eq_true (by omega)
 have g8:decide (1099511627776<(fn:Int)+ds.length)=false:=decide_eq_false (by omega)
 have g9:decide (65536<(fn:Int)+ds.length)=false:=decide_eq_false (by omega)
 have g10:¬ (1099511627776<(fn:Int)+ds.length):=by omega
 have g11:¬ (65536<(fn:Int)+ds.length):=by omega
 clear h hf hd hS hml hnx hll h4 hln hfn
 go_enter Tryz.func74,Tryz.ntmps74
 go_upto_region 1 with (fail)
 rw [←hz]
 generalize w.alloc (.cells #[k0,k1,m0,m1,m2,m3,m4,m5,m6,m7,m8,m9,.slice dA ds.length dc,k13,k14,k15] 61)=W at HND HGR HZ HDS HAP HE57 c12 c20 c8 ⊢
 clear hz
 have z12:W.cell? ⟨z,12,none⟩=some (.slice dA ds.length dc):=cell_block HZ.out 12 _ rfl
 go_wp2_with (fail)
 refine (within_any _ _ _ _).mono ?_
 rintro e w' ⟨rfl,hw'⟩
 replace hw':=hw'.symm
 subst hw'
 rw [g3]
 go_wp2_with (fail)
 refine (HE57.out 0).mono ?_
 rintro e w1 ⟨rfl,n1,rfl⟩
 go_wp2_with (fail)
 refine (HE57.out _).mono ?_
 rintro e w1 ⟨rfl,n2,rfl⟩
 go_wp2_with (fail)
 refine (HE57.out _).mono ?_
 rintro e w1 ⟨rfl,n3,rfl⟩
 clear c12 c20 c8 g3 g8 g9 g10 g11
 obtain ⟨arr5,hb5⟩:=HND.out.arr
 have hf5:=frozen_block hb5
 have hbl5:=HND.out.lt
 clear hb5
 obtain ⟨s9,c9,hN9,_,_,_⟩:=HND.out
 have c27:=nc27 hN9.blk
 have c28:=nc28 hN9.blk
 clear hN9
 go_upto_region 13 with (fail)
 have hW5:NodeAt (((W.drewN (n1+n2+n3)).setCell ⟨b,27,none⟩ (.int .i64 ((fn:Int)+1))).setCell ⟨b,28,none⟩ (.int .i64 ((fn:Int)+ds.length))) F G b cf draw l0 p ms:=(HND.out.drewN (n1+n2+n3)).setFL _ _
 have hG5:Grew w (((W.drewN (n1+n2+n3)).setCell ⟨b,27,none⟩ (.int .i64 ((fn:Int)+1))).setCell ⟨b,28,none⟩ (.int .i64 ((fn:Int)+ds.length))) F G F G:=((HGR.out.below (below_drewN' (Below.refl _ _) (n1+n2+n3))).setCell (o:=27) HND.out.hb _).setCell (o:=28) HND.out.hb _
 have hg5:Grew W (((W.drewN (n1+n2+n3)).setCell ⟨b,27,none⟩ (.int .i64 ((fn:Int)+1))).setCell ⟨b,28,none⟩ (.int .i64 ((fn:Int)+ds.length))) F G F G:=(((Grew.refl (w:=W) (F:=F) (G:=G)).below (below_drewN' (Below.refl _ _) (n1+n2+n3))).setCell (o:=27) HND.out.hb _).setCell (o:=28) HND.out.hb _
 have HZ5:Hid ((((W.drewN (n1+n2+n3)).setCell ⟨b,27,none⟩ (.int .i64 ((fn:Int)+1))).setCell ⟨b,28,none⟩ (.int .i64 ((fn:Int)+ds.length))).heap[z]?=some (.cells #[k0,k1,m0,m1,m2,m3,m4,m5,m6,m7,m8,m9,.slice dA ds.length dc,k13,k14,k15] 61 (0,0))):=ld ((hg5.chg.keep (block_lt HZ.out) (fun h=>HFZ.out h)).trans HZ.out)
 have HDS5:=ld (HDS.out.grew HAP.out hg5)
 have HAP5:=ld (HAP.out.grew hg5)
 clear HND HGR HZ HDS HAP HE57 hf5 hbl5 c27 c28 z12 hg5
 generalize ((W.drewN (n1+n2+n3)).setCell ⟨b,27,none⟩ (.int .i64 ((fn:Int)+1))).setCell ⟨b,28,none⟩ (.int .i64 ((fn:Int)+ds.length))=W5 at hW5 hG5 HZ5 HDS5 HAP5 ⊢
 have ND5:=ld hW5
 have GR5:=ld hG5
 clear hW5 hG5
 have z12:W5.cell? ⟨z,12,none⟩=some (.slice dA ds.length dc):=cell_block HZ5.out 12 _ rfl
 go_wp2_with (fail)
 go_loopw [7,58] (fun _ i wr=>∃ k:Nat,i=.int .i64 k∧k≤ds.length∧Hid (∃ F',NodeAt wr F' G b cf draw l0 { p with log:=p.log++((ds.take k).map fun d=>(⟨p.term,d.2⟩:Rf.Ent)) } ms∧Grew W5 wr F G F' G)) (fun _ i _=>ds.length-(intOf i).toNat)
 case atStart=>exact ⟨0,rfl,Nat.zero_le _,ld ⟨F,by rw [List.take_zero,List.map_nil,List.append_nil];exact ND5.out,Grew.refl⟩⟩
 case round =>
  obtain ⟨k,rfl,hk,HI⟩:=hrel
  obtain ⟨F',hnk,hgk⟩:=HI.out
  by_cases hlt:k<ds.length
  ·have hpk:=List.getElem?_eq_getElem hlt
   have hDr:=HDS5.out.grew HAP5.out hgk
   have hAr:=HAP5.out.grew hgk
   obtain ⟨ba,o,hA,hSb,c0⟩:=data_at hDr hpk
   obtain ⟨hdr,hdn,hdl⟩:=hDr.each _ (List.getElem_mem hlt)
   have HDK:Hid ((ds.take (k+1)).map (fun d=>(⟨p.term,d.2⟩:Rf.Ent))=(ds.take k).map (fun d=>(⟨p.term,d.2⟩:Rf.Ent))++[⟨p.term,ds[k].2⟩]):=ld (by rw [List.take_add_one,hpk,List.map_append];rfl)
   clear hpk
   have hA':=hA
   subst hA'
   generalize ds[k]=q at c0 hdr hdn hdl HDK
   have hfk:Fits cf { p with log:=p.log++((ds.take k).map fun d=>(⟨p.term,d.2⟩:Rf.Ent)) }:=Rf.grow_fits HF.out _ (by rw [List.length_map,List.length_take];have:=HFN.out;omega)
   have hlk:({ p with log:=p.log++((ds.take k).map fun d=>(⟨p.term,d.2⟩:Rf.Ent)) }:Rf.Nd).log.length=fn+k:=by
    show (p.log++_).length=_
    rw [List.length_append,List.length_map,List.length_take,Nat.min_eq_left (Nat.le_of_lt hlt)]
    have:=HFN.out;omega
   have HFK:=ld hfk
   have HLK:=ld hlk
   have NDk:=ld hnk
   have GRk:=ld hgk
   have HAr:=ld hAr
   have HQ:=ld (And.intro hdr (And.intro hdn hdl))
   have c6:wr.cell? ⟨b,6,none⟩=some (.int .i64 (p.term:Int)):=hnk.c6
   have HNE:=ld (show wr.heap.size≠b from fun e=>by have:=hnk.lt;omega)
   clear hfk hlk hnk hgk hDr hAr hdr hdn hdl HI hA hSb
   obtain ⟨lk',hlk'⟩:∃ lk':Nat,lk'=fn+k:=⟨_,rfl⟩
   have HLL2:=ld hlk'
   have hlkb:(lk':Int)≤65536:=by omega
   have VV1:IntKind.i64.wrap ((lk':Int)+1)=(lk':Int)+1:=IntWalk.i64_in _ (by omega)
   have HE57:Hid (∀ nn,Calls Tryz.prog 57 #[.pointer (some ⟨b,0,none⟩)] (wr.drewN nn) fun e w'=>e=.returned (.int .i64 lk')∧∃ n,w'=(wr.drewN nn).drewN n):=ld fun nn=>by rw [hlk',←HLK.out];exact end_at (NDk.out.drewN nn) HFK.out
   have HJ:=ld (fun nq=>join_at (NDk.out.below ((below_drewN' (Below.refl wr.heap.size wr) nq).alloc (Nat.le_refl _) (.cells #[.int .i64 ((lk':Int)+1),.int .i64 (p.term:Int),.slice q.1.A q.1.n q.1.c] 67))) HFK.out (some ⟨wr.heap.size,0,none⟩) 1 1 [(⟨(lk':Int)+1,p.term,q.1.A,q.1.n,q.1.c⟩,q.2)] (fun i=>i=wr.heap.size∨S i)
    (ents_one (wr.drewN nq) _ _ q.1.A q.1.n q.1.c q.2 S (fun i hi=>(HAr.out i hi).1) (HQ.out.1.keep fun _ _=>rfl) HQ.out.2.1 HQ.out.2.2) (fun i hi=>hi.elim (fun e=>e▸⟨by simp,HNE.out⟩) (fun hs=>⟨by have:=(HAr.out i hs).1;simp;omega,fun e=>(HAr.out i hs).2.1 (e▸NDk.out.hb)⟩)) rfl [⟨p.term,q.2⟩] (by rw [HLK.out,numb_one,←HLL2.out];rfl) (by simp))
   clear hlk'
   go_wp2_with (fail)
   go_region_held3 (fun w'=>w'.cell? ⟨b,6,none⟩=some (.int .i64 (p.term:Int)))
    (first | go_keep | (go_split_ands;exact HN7.c6))
    (first
     | (go_at_call 57;refine (HE57.out _).mono ?_;rintro e w6 ⟨rfl,nq6,rfl⟩)
     | (go_at_call 104;refine (HJ.out _).mono ?_;rintro e w7 ⟨rfl,F7,HN7,hg7⟩))
   clear VV1 c6 HE57 HJ
   have HN8:=ld HN7
   have hg8:Grew W5 w7 F G F7 G:=(GRk.out.below ((below_drewN' (Below.refl _ _) (1+nq6)).alloc (Nat.le_refl _) _)).trans hg7
   have HG8:=ld hg8
   clear HN7 hg7 hg8
   go_wp2
   go_roundw
   case rel =>
    refine ⟨k+1,by go_num,by omega,ld ⟨F7,?_,HG8.out⟩⟩
    show NodeAt w7 F7 G b cf draw l0 { p with log:=p.log++(ds.take (k+1)).map (fun d=>(⟨p.term,d.2⟩:Rf.Ent)) } ms
    rw [HDK.out,←List.append_assoc]
    exact HN8.out
   case measure=>simp [intOf];omega
  ·have hke:k=ds.length:=by omega
   subst hke
   rw [List.take_length] at hnk
   have NDk:=ld hnk
   have GRk:=ld hgk
   clear hnk hgk HI hlt
   have HFK:Hid (Fits cf { p with log:=p.log++(ds.map fun d=>(⟨p.term,d.2⟩:Rf.Ent)) }):=ld (Rf.grow_fits HF.out _ (by rw [List.length_map];have:=HFN.out;omega))
   go_wp2_with (fail)
   refine (count_at NDk.out HFK.out H4.out).mono ?_
   rintro e w8 ⟨rfl,F8,G8,hn8,hg8⟩
   have ND8:=ld hn8
   have GR8:=ld (GRk.out.trans hg8)
   clear hn8 hg8
   go_wp2_with (fail)
   refine (apps_any ND8.out (Rf.count_fits HFK.out) H4.out ?_ (by have:=HML.out;omega)).mono ?_
   ·intro q hq
    have h5:=HNX.out q hq
    refine ⟨h5.1,Nat.le_trans h5.2 ?_⟩
    show p.log.length+1≤(p.log++_).length+1
    rw [List.length_append];omega
   rintro e w9 ⟨rfl,hA9⟩
   have HA9:=ld hA9
   clear hA9
   go_wp2
   go_ret
   have HE:Rf.propose cf (ds.map (·.2)) p=(Rf.count cf { p with log:=p.log++(ds.map fun d=>(⟨p.term,d.2⟩:Rf.Ent)) },Rf.apps cf (Rf.count cf { p with log:=p.log++(ds.map fun d=>(⟨p.term,d.2⟩:Rf.Ent)) })):=by
    unfold Rf.propose
    rw [List.map_map]
    rfl
   rw [HE]
   exact ⟨rfl,HA9.out.of (GR5.out.trans GR8.out)⟩
end
section
variable {P:Program} {ops:Array Oper} {Q:Exit→Act→World→Prop} {md:Region.Mode} {S:World→Prop} {oi:Oper} {fuel:Nat} {listed l':Array Bool} {a a':Act} {w:World}
theorem tkG240 (i:Nat) (v:Value) (h:wpAnyH P md ops Q S fuel l' a' w) (hh:Tk ops Q md S oi listed l' a a' w i v:=by exact tkm) (hw:Region.wanted oi (yielded ops a.tmps)=true:=by rfl) (hv:∀ w,S w→(execOp a.eval oi).run P w=.ok (.value v) w:=by
  intro w hSw;obtain ⟨hS1,hS2⟩:=hSw;obtain ⟨d0,d1,d2,d3,d4,d5,d6,d7,d8,d9⟩:=hS1.d;go_simp):wpAnyH P md ops Q S (fuel+1) listed a w:=tk i v hv h hh hw
end
section
variable {w w1 w2:World} {F G:Nat→Prop} {b:Nat} {cf:Rf.Cfg} {draw:Int} {l0:List Rf.Ent} {p:Rf.Nd} {ms:List Rf.Msg}
def kindCells:Array Value:=#[.nilFunc,.func (.func 140) #[] #[],.func (.func 141) #[] #[],.func (.func 142) #[] #[],.func (.func 143) #[] #[],.func (.func 144) #[] #[],.func (.func 145) #[] #[],.func (.func 146) #[] #[],.func (.func 147) #[] #[]]
set_option maxRecDepth 100000 in
theorem kinds_any (w:World):Calls Tryz.prog 103 #[] w fun e w'=>∃ y,e=.returned (.slice (some ⟨y,0,none⟩) 9 9)∧Below w.heap.size w w'∧w'.heap[y]?=some (.cells kindCells 163 (0,0))∧w.heap.size≤y:=by
 go_enter Tryz.func103,Tryz.ntmps103
 go_wp2
 go_ret
 exact ⟨_,rfl,below_one _ _,World.alloc_at w _,Nat.le_refl _⟩
def lgd (k:Nat):Bool:=decide (k=1∨k=3∨k=5∨k=7)
theorem logged_any (k:Nat) (w:World):Calls Tryz.prog 139 #[.int .i64 k] w fun e w'=>e=.returned (.bool (lgd k))∧w'=w:=by
 have key:lgd k=true∨lgd k=false:=by cases lgd k <;> simp
 by_cases q1:k=1
 ·subst q1
  go_enter Tryz.func139,Tryz.ntmps139
  go_wp2
  go_ret
  exact ⟨rfl,rfl⟩
 ·have a1:((k:Int)==1)=false:=by rw [beq_eq_false_iff_ne];omega
  by_cases q3:k=3
  ·subst q3
   go_enter Tryz.func139,Tryz.ntmps139
   go_wp2
   go_ret
   exact ⟨rfl,rfl⟩
  ·have a3:((k:Int)==3)=false:=by rw [beq_eq_false_iff_ne];omega
   by_cases q5:k=5
   ·subst q5
    go_enter Tryz.func139,Tryz.ntmps139
    go_wp2
    go_ret
    exact ⟨rfl,rfl⟩
   ·have a5:((k:Int)==5)=false:=by rw [beq_eq_false_iff_ne];omega
    by_cases q7:k=7
    ·subst q7
     go_enter Tryz.func139,Tryz.ntmps139
     go_wp2
     go_ret
     exact ⟨rfl,rfl⟩
    ·have a7:((k:Int)==7)=false:=by rw [beq_eq_false_iff_ne];omega
     have HE:Hid (lgd k=false):=ld (by unfold lgd;simp [q1,q3,q5,q7])
     clear q1 q3 q5 q7 key
     go_enter Tryz.func139,Tryz.ntmps139
     go_wp2
     go_ret
     exact ⟨by rw [HE.out];rfl,rfl⟩
theorem numb_ok:∀ (es:List Rf.Ent) (k t T:Nat),Rf.goesP t es T→k+es.length≤1000000→LogOK (numb k es) k t T:=by
 intro es
 induction es with
 | nil=>intro k t T _ _ i e he;simp [numb] at he
 | cons x es ih =>
  intro k t T h hk i e he
  obtain ⟨h1,h2,h3⟩:=h
  rw [List.length_cons] at hk
  cases i with
  | zero =>
   simp only [numb,List.getElem?_cons_zero,Option.some.injEq] at he
   subst he
   refine ⟨by simp,by simp;omega,by simp;omega,?_,by simp;omega⟩
   show prevT _ _ 0≤(x.term:Int)
   unfold prevT
   rw [if_pos rfl];omega
  | succ i =>
   simp only [numb,List.getElem?_cons_succ] at he
   obtain ⟨g1,g2,g3,g4,g5⟩:=ih (k+1) x.term T h3 (by omega) i e he
   refine ⟨by rw [g1];push_cast;omega,g2,g3,?_,g5⟩
   refine Int.le_trans (Int.le_of_eq ?_) g4
   unfold prevT
   rw [if_neg (Nat.succ_ne_zero i)]
   cases i with
   | zero=>simp [numb]
   | succ i=>simp [numb]
set_option maxRecDepth 100000 in
set_option maxHeartbeats 4000000 in
theorem formed_yes (h:NodeAt w F G b cf draw l0 p ms) (hf:Fits cf p) (m:Rf.Msg) (A:Option Addr) (n c:Nat) (hfm:Rf.Form m) (hsrc:isOther cf p m.src=true) (hdst:m.dst=p.id) (htm:m.term≤1000000) (hix:m.idx≤900000) (hcm:m.commit≤1000000) (hhi:m.hint≤1000000)
  (S:Nat→Prop) (qs:List (LE×List Int)) (hE:EntsS w S A qs) (hS:∀ i,S i→i<w.heap.size) (hqs:qs.map con=numb m.idx m.es) (hn:n=qs.length) (hgo:Rf.goesP m.lt m.es m.term) :
  Calls Tryz.prog 99 #[.pointer (some ⟨b,0,none⟩),msgV (mrOf m A n c)] w fun e w'=>e=.returned (.bool true)∧Below w.heap.size w w':=by
 rw [msgV_eq]
 have HND:=ld (h.below (below_one w (boxO m A n c)))
 have HBX:=ld (BoxAt.made w m A n c)
 have HBW:=ld (below_one w (boxO m A n c))
 have HF:=ld hf
 obtain ⟨z,hz⟩:∃ z,z=w.heap.size:=⟨_,rfl⟩
 rw [←hz] at HBX
 have HEN:Hid (EntsS (w.alloc (boxO m A n c)) S A qs):=ld (hE.keep fun i hi=>Below.heap_alloc _ _ _ (hS i hi))
 have HSS:=ld hS
 have HFM:=ld hfm
 have HSR:=ld hsrc
 have HQS:=ld (And.intro hqs hn)
 have HGO:=ld hgo
 have hnl:n=m.es.length:=by have:=congrArg List.length hqs;rw [List.length_map,numb_len] at this;omega
 have HNL:=ld hnl
 have HBD:Hid ((m.term≤1000000∧m.idx≤900000)∧(m.commit≤1000000∧m.hint≤1000000)∧m.dst=p.id):=ld ⟨⟨htm,hix⟩,⟨hcm,hhi⟩,hdst⟩
 have HK8:Hid (decide ((1:Int)≤(m.kind:Int)∧(m.kind:Int)≤8)=true):=ld (decide_eq_true (by have:=hfm.kind;omega))
 have HT8:Hid (decide ((1:Int)≤(m.term:Int)∧(m.term:Int)≤1099511627776)=true):=ld (decide_eq_true (by have:=hfm.term;omega))
 clear h hf hfm hsrc hdst htm hix hcm hhi hE hS hqs hn hgo hnl
 go_enter Tryz.func99,Tryz.ntmps99
 go_upto_region 1 with (fail)
 rw [←hz,show w.alloc (.cells #[.int .i64 m.kind,.int .i64 m.src,.int .i64 m.dst,.int .i64 m.term,.int .i64 m.idx,.int .i64 m.lt,.int .i64 m.commit,.slice A n c,.bool m.rej,.int .i64 m.hint] 59)=w.alloc (boxO m A n c) from rfl]
 generalize w.alloc (boxO m A n c)=W at HND HBW HBX HEN ⊢
 clear hz
 have HZL:=ld HBX.out.lt
 have c0:W.drew.cell? ⟨b,0,none⟩=some (.int .i64 (p.id:Int)):=HND.out.c0
 have BXd:Hid (BoxAt W.drew z m A n c):=ld HBX.out
 have b0:((m.dst:Int) != (p.id:Int))=false:=by rw [bne_eq_false_iff_eq];have:=HBD.out.2.2;omega
 have b0':(m.dst != p.id)=false:=by rw [bne_eq_false_iff_eq];have:=HBD.out.2.2;omega
 refine wp_region_held_drew (S:=fun W:World=>BoxAt W z m A n c∧W.cell? ⟨b,0,none⟩=some (.int .i64 (p.id:Int))) (by kernel_rfl) ⟨BXd.out,c0⟩ (fun hHeld=>?_)
 refine tkG240 0 (.pointer (some ⟨z,0,none⟩)) ?_
 refine tkG240 1 (.int .i64 (m.kind:Int)) ?_
 refine rdy 2 fun K hK=>?_
 go_simp
 refine (kinds_any _).mono ?_
 rintro e w3 ⟨y3,rfl,hb3,hk3,hl3⟩
 have ND3:=ld (HND.out.below (show Below W.heap.size W w3 from ⟨hb3.os,hb3.tape,hb3.output,hb3.size,hb3.block⟩))
 have BW3:=ld (show Below W.heap.size W w3 from ⟨hb3.os,hb3.tape,hb3.output,hb3.size,hb3.block⟩)
 have BX3:=ld (HBX.out.below BW3.out)
 have c03:=ND3.out.c0
 clear hb3 hk3 hl3
 go_wp2_with fail
 refine hks hK ?_ fun hHeld=>?_
 ·exact ⟨BX3.out,c03⟩
 clear hK K
 refine tkG240 3 (.int .i64 9) ?_
 refine tk 4 (.int .i64 8) ?_ ?_
 ·intro w hSw;obtain ⟨hS1,hS2⟩:=hSw;obtain ⟨d0,d1,d2,d3,d4,d5,d6,d7,d8,d9⟩:=hS1.d;have vw:IntKind.i64.wrap (8:Int)=8:=IntWalk.i64_in _ (by omega);go_simp;try exact vw
 refine rdy 5 fun K hK=>?_
 go_simp
 refine (within_any _ _ _ _).mono ?_
 rintro e w5 ⟨rfl,hw5⟩
 replace hw5:=hw5.symm
 subst hw5
 rw [HK8.out]
 go_wp2_with fail
 refine hks hK ?_ fun hHeld=>?_
 ·exact ⟨BX3.out,c03⟩
 clear hK K
 refine tkG240 6 (.bool false) ?_
 refine tkG240 7 (.bool false) ?_
 refine tkG240 8 (.pointer (some ⟨b,0,none⟩)) ?_
 refine tkG240 9 (.pointer (some ⟨z,1,none⟩)) ?_
 refine tkG240 10 (.int .i64 (m.src:Int)) ?_
 refine rdy 11 fun K hK=>?_
 go_simp
 refine (isOther_any ND3.out HF.out m.src).mono ?_
 rintro e w6 ⟨rfl,n6,rfl⟩
 rw [HSR.out]
 have ND6:=ld (ND3.out.drewN n6)
 have BX6:Hid (BoxAt (w3.drewN n6) z m A n c):=ld BX3.out
 have c06:=ND6.out.c0
 go_wp2_with fail
 refine hks hK ?_ fun hHeld=>?_
 ·exact ⟨BX6.out,c06⟩
 clear hK K
 refine tkG240 12 (.bool false) ?_
 refine tkG240 13 (.bool false) ?_
 refine tkG240 14 (.bool false) ?_
 refine tkG240 15 (.pointer (some ⟨z,2,none⟩)) ?_
 refine tkG240 16 (.int .i64 (m.dst:Int)) ?_
 refine tkG240 17 (.pointer (some ⟨b,0,none⟩)) ?_
 refine tkG240 18 (.pointer (some ⟨b,0,none⟩)) ?_
 refine tkG240 19 (.pointer (some ⟨b,0,none⟩)) ?_
 refine tkG240 20 (.pointer (some ⟨b,0,none⟩)) ?_
 refine tkG240 21 (.int .i64 (p.id:Int)) ?_
 refine tkG240 22 (.bool false) ?_
 refine tkG240 23 (.bool false) ?_
 refine tkG240 24 (.bool false) ?_
 refine tkG240 25 (.pointer (some ⟨z,3,none⟩)) ?_
 refine tkG240 26 (.int .i64 (m.term:Int)) ?_
 refine rdy 27 fun K hK=>?_
 go_simp
 refine (within_any _ _ _ _).mono ?_
 rintro e w7 ⟨rfl,hw7⟩
 replace hw7:=hw7.symm
 subst hw7
 rw [HT8.out]
 go_wp2_with fail
 refine hks hK ?_ fun hHeld=>?_
 ·exact ⟨BX6.out,c06⟩
 clear hK K
 refine tkG240 28 (.bool false) ?_
 refine tkG240 29 (.bool false) ?_
 refine don ?_
 clear hHeld c06 c03 c0 b0 b0' BXd
 have BW6:=ld (below_drewN' BW3.out n6)
 have EN6:Hid (EntsS (w3.drewN n6) S A qs):=ld (HEN.out.keep fun i hi=>BW3.out.block i (Nat.lt_of_lt_of_le (HSS.out i hi) HBW.out.size))
 clear ND3 BX3 BW3 HND HBX HEN
 generalize w3.drewN n6=W6 at ND6 BX6 BW6 EN6 ⊢
 obtain ⟨d0,d1,d2,d3,d4,d5,d6,d7,d8,d9⟩:=BX6.out.d
 clear d1 d2
 have i0:decide ((0:Int)≤(m.idx:Int)∧(m.idx:Int)≤1099511627776)=true:=decide_eq_true (by have:=HBD.out;omega)
 have i1:decide ((0:Int)≤(m.commit:Int)∧(m.commit:Int)≤1099511627776)=true:=decide_eq_true (by have:=HBD.out;omega)
 have i2:decide ((0:Int)≤(m.hint:Int)∧(m.hint:Int)≤1099511627776)=true:=decide_eq_true (by have:=HBD.out;omega)
 have i3:decide ((0:Int)≤(m.lt:Int)∧(m.lt:Int)≤(m.term:Int))=true:=decide_eq_true (by have:=HFM.out.lt;omega)
 have I0:=ld i0
 have I1:=ld i1
 have I2:=ld i2
 have I3:=ld i3
 clear i0 i1 i2 i3
 go_wp2_with (fail)
 refine (within_any _ _ _ _).mono ?_
 rintro e w7 ⟨rfl,hw7⟩
 replace hw7:=hw7.symm
 subst hw7
 rw [I0.out]
 go_wp2_with (fail)
 refine (within_any _ _ _ _).mono ?_
 rintro e w7 ⟨rfl,hw7⟩
 replace hw7:=hw7.symm
 subst hw7
 rw [I1.out]
 go_wp2_with (fail)
 refine (within_any _ _ _ _).mono ?_
 rintro e w7 ⟨rfl,hw7⟩
 replace hw7:=hw7.symm
 subst hw7
 rw [I2.out]
 go_wp2_with (fail)
 refine (within_any _ _ _ _).mono ?_
 rintro e w7 ⟨rfl,hw7⟩
 replace hw7:=hw7.symm
 subst hw7
 rw [I3.out]
 go_wp2_with (fail)
 refine (logged_any _ _).mono ?_
 rintro e w7 ⟨rfl,hw7⟩
 replace hw7:=hw7.symm
 subst hw7
 have HGC:=ld (goes_yes A n c qs (m.idx:Int) (m.lt:Int) (m.term:Int) W6 (EN6.out.ents fun i hi=>Nat.lt_of_lt_of_le (HSS.out i hi) (Nat.le_trans HBW.out.size BW6.out.size)) HQS.out.2 (by have:=HFM.out.len;have:=HNL.out;have:=HQS.out.2;omega) (by rw [HQS.out.1];exact numb_ok _ _ _ _ HGO.out (by have:=HFM.out.len;have:=HBD.out;omega)) (by omega) (by have:=HBD.out;omega) (by have:=HBD.out;omega) (by omega) (by have:=HBD.out;have:=HFM.out.lt;omega))
 have hn16:decide ((n:Int)≤16)=true:=decide_eq_true (by have:=HNL.out;have:=HFM.out.len;omega)
 have hn16':(n:Int)≤16:=by have:=HNL.out;have:=HFM.out.len;omega
 clear EN6 ND6
 obtain ⟨kd,hkd⟩:∃ kd,kd=m.kind:=⟨_,rfl⟩
 rw [←hkd] at d0 ⊢
 have hz3:(kd=1∨kd=3∨kd=5)→(((m.lt:Int)==0)=((m.idx:Int)==0)):=fun hk=>by
  have:=HFM.out.zero (by omega)
  rw [Bool.eq_iff_iff,beq_iff_eq,beq_iff_eq];omega
 have hes:kd≠5→n=0:=fun hk=>by
  rw [HNL.out,HFM.out.es (by omega)];rfl
 have hhi:kd=6→m.rej=true→m.hint<m.idx∨(m.hint=0∧m.idx=0):=fun h1 h2=>HFM.out.hint (by omega) h2
 have hkk:=HFM.out.kind
 have hcase:kd=1∨kd=2∨kd=3∨kd=4∨kd=5∨kd=6:=by omega
 clear hkd hkk
 rcases hcase with rfl | rfl | rfl | rfl | rfl | rfl
 ·have d0k:W6.cell? ⟨z,0,none⟩=some (.int .i64 1):=d0
  have hz0:=hz3 (by decide)
  rw [show lgd 1=true from rfl]
  obtain rfl:=hes (by decide)
  clear d0 hes hz3
  clear hhi
  go_wp2_with (fail)
  refine HGC.out.mono ?_
  rintro e w8 ⟨rfl,hb8⟩
  go_wp2
  go_ret
  exact ⟨rfl,(HBW.out.trans (BW6.out.mono HBW.out.size)).trans (hb8.mono (Nat.le_trans HBW.out.size BW6.out.size))⟩
 ·have d0k:W6.cell? ⟨z,0,none⟩=some (.int .i64 2):=d0
  rw [show lgd 2=false from rfl]
  obtain rfl:=hes (by decide)
  clear d0 hes hz3
  clear hhi
  go_wp2_with (fail)
  refine HGC.out.mono ?_
  rintro e w8 ⟨rfl,hb8⟩
  go_wp2
  go_ret
  exact ⟨rfl,(HBW.out.trans (BW6.out.mono HBW.out.size)).trans (hb8.mono (Nat.le_trans HBW.out.size BW6.out.size))⟩
 ·have d0k:W6.cell? ⟨z,0,none⟩=some (.int .i64 3):=d0
  have hz0:=hz3 (by decide)
  rw [show lgd 3=true from rfl]
  obtain rfl:=hes (by decide)
  clear d0 hes hz3
  clear hhi
  go_wp2_with (fail)
  refine HGC.out.mono ?_
  rintro e w8 ⟨rfl,hb8⟩
  go_wp2
  go_ret
  exact ⟨rfl,(HBW.out.trans (BW6.out.mono HBW.out.size)).trans (hb8.mono (Nat.le_trans HBW.out.size BW6.out.size))⟩
 ·have d0k:W6.cell? ⟨z,0,none⟩=some (.int .i64 4):=d0
  rw [show lgd 4=false from rfl]
  obtain rfl:=hes (by decide)
  clear d0 hes hz3
  clear hhi
  go_wp2_with (fail)
  refine HGC.out.mono ?_
  rintro e w8 ⟨rfl,hb8⟩
  go_wp2
  go_ret
  exact ⟨rfl,(HBW.out.trans (BW6.out.mono HBW.out.size)).trans (hb8.mono (Nat.le_trans HBW.out.size BW6.out.size))⟩
 ·have d0k:W6.cell? ⟨z,0,none⟩=some (.int .i64 5):=d0
  have hz0:=hz3 (by decide)
  rw [show lgd 5=true from rfl]
  clear d0 hes hz3
  clear hhi
  go_wp2_with (fail)
  refine HGC.out.mono ?_
  rintro e w8 ⟨rfl,hb8⟩
  go_wp2
  go_ret
  exact ⟨rfl,(HBW.out.trans (BW6.out.mono HBW.out.size)).trans (hb8.mono (Nat.le_trans HBW.out.size BW6.out.size))⟩
 ·have d0k:W6.cell? ⟨z,0,none⟩=some (.int .i64 6):=d0
  rw [show lgd 6=false from rfl]
  obtain rfl:=hes (by decide)
  clear d0 hes hz3
  rcases Bool.eq_false_or_eq_true m.rej with hr | hr
  ·rw [hr] at d8
   rcases hhi rfl hr with q | ⟨q1,q2⟩
   ·have e1:decide ((m.idx:Int)≤(m.hint:Int))=false:=decide_eq_false (by omega)
    have e2:¬ ((m.idx:Int)≤(m.hint:Int)):=by omega
    clear hhi q
    go_wp2_with (fail)
    refine HGC.out.mono ?_
    rintro e w8 ⟨rfl,hb8⟩
    go_wp2
    go_ret
    exact ⟨rfl,(HBW.out.trans (BW6.out.mono HBW.out.size)).trans (hb8.mono (Nat.le_trans HBW.out.size BW6.out.size))⟩
   ·rw [q1] at d9
    rw [q2] at d4
    have d9z:W6.cell? ⟨z,9,none⟩=some (.int .i64 0):=d9
    have d4z:W6.cell? ⟨z,4,none⟩=some (.int .i64 0):=d4
    have hgc:=HGC.out
    rw [q2] at hgc
    have HG0:Hid (Calls Tryz.prog 87 #[.slice A 0 c,.int .i64 0,.int .i64 (m.lt:Int),.int .i64 (m.term:Int)] W6 fun e w'=>e=.returned (.bool true)∧Below W6.heap.size W6 w'):=ld hgc
    clear hhi hgc d4 d9 q1 q2 HGC
    go_wp2_with (fail)
    refine HG0.out.mono ?_
    rintro e w8 ⟨rfl,hb8⟩
    go_wp2
    go_ret
    exact ⟨rfl,(HBW.out.trans (BW6.out.mono HBW.out.size)).trans (hb8.mono (Nat.le_trans HBW.out.size BW6.out.size))⟩
  ·rw [hr] at d8
   clear hhi
   go_wp2_with (fail)
   refine HGC.out.mono ?_
   rintro e w8 ⟨rfl,hb8⟩
   go_wp2
   go_ret
   exact ⟨rfl,(HBW.out.trans (BW6.out.mono HBW.out.size)).trans (hb8.mono (Nat.le_trans HBW.out.size BW6.out.size))⟩
end
end Go.Proofs.YtocogcgnahbpkaaGreat
