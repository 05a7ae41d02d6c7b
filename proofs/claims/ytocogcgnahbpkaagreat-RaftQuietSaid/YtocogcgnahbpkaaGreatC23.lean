import Derived.Test.YtocogcgnahbpkaaGreatC12
import Derived.Test.YtocogcgnahbpkaaGreatC22
namespace Go.Proofs.YtocogcgnahbpkaaGreat
open Go.RowKit
theorem others_at {w:World} {F G:Nat→Prop} {b:Nat} {cf:Rf.Cfg} {draw:Int} {l0:List Rf.Ent} {p:Rf.Nd} {ms:List Rf.Msg} (h:NodeAt w F G b cf draw l0 p ms) (hf:Fits cf p) :
  Calls Tryz.prog 59 #[.pointer (some ⟨b,0,none⟩)] w fun e w'=>∃ A' c',e=.returned (.slice A' (ints (Rf.others cf p.id)).length c')∧RowS encI 1 w' (fun i=>w.heap.size≤i∧i<w'.heap.size) A' (ints (Rf.others cf p.id))∧Below w.heap.size w w':=by
 obtain ⟨s,c,hN,hR,_⟩:=h
 have:=hR.pl
 have:=hf.n
 rw [←hR.others]
 exact others_new b s c w hN.blk hN.rest.peers (by omega)
theorem ints_get {l:List Nat} {os:List Int} (e:ints l=os) {j:Nat} {x:Int} (h:os[j]?=some x):∃ q:Nat,l[j]?=some q∧x=(q:Int):=by
 subst e
 unfold ints at h
 rw [List.getElem?_map] at h
 cases hx:l[j]? with
 | none=>rw [hx] at h;cases h
 | some q=>rw [hx] at h;injection h with h;exact ⟨q,rfl,h.symm⟩
def Rf.Nd.cand1 (cf:Rf.Cfg) (draw:Int) (p:Rf.Nd):Rf.Nd:=Rf.rest cf draw { p with term:=p.term+1,vote:=p.id,role:=3,leader:=0,gr:=[p.id],rf:=[] }
def voteM (p:Rf.Nd) (q:Nat):Rf.Msg:={ kind:=3,src:=p.id,dst:=q,term:=p.term,idx:=p.fin,lt:=p.tm p.fin }
theorem Rf.stand_eq {cf:Rf.Cfg} {draw:Int} {p:Rf.Nd}:Rf.stand cf draw p=if Rf.maj cf 1=true then Rf.lead cf (p.cand1 cf draw) else (p.cand1 cf draw,(Rf.others cf (p.cand1 cf draw).id).map (voteM (p.cand1 cf draw))):=rfl
set_option maxRecDepth 100000 in
set_option maxHeartbeats 4000000 in
theorem stand_any {w:World} {F G:Nat→Prop} {b:Nat} {cf:Rf.Cfg} {draw:Int} {l0:List Rf.Ent} {p:Rf.Nd} {ms:List Rf.Msg} (h:NodeAt w F G b cf draw l0 p ms) (hf:Fits cf p) (hlt:p.log.length<65536) (htm:p.term<1000000) (hml:ms.length≤400) :
  Calls Tryz.prog 137 #[.pointer (some ⟨b,0,none⟩),.bool false] w fun e w'=>e=.returned (.tuple #[])∧After w w' F G b cf draw l0 (Rf.stand cf draw p).1 (ms++(Rf.stand cf draw p).2):=by
 obtain ⟨s,c,h,hR,hMS,hFR⟩:=h
 have hidk:okI s.id:=by have:=hR.id;have:=hf.id;have:=hf.n;unfold okI;omega
 have g0:0≤s.least:=by have:=hR.cfg;omega
 have g1:s.least≤s.most:=by have:=hR.cfg;have:=hf.time;omega
 have g2:s.most≤1000:=by have:=hR.cfg;have:=hf.time;omega
 have t0:0≤s.term:=by have:=hR.hard;omega
 have t1:s.term≤1099511627776:=by have:=hR.hard;omega
 have HR:=ld hR
 have HMS:=ld hMS
 have HFR:=ld hFR
 have HFT:=ld hf
 have HLT:=ld hlt
 have HTM:=ld htm
 have HML:=ld hml
 clear hR hMS hFR hf hlt hml htm
 have hb:=h.blk
 have c0:=nc0 hb
 have c6:=nc6 hb
 have c7:=nc7 hb
 have hf:=frozen_block hb
 have c12:=nc12 hb
 have c13:=nc13 hb
 have c20:=nc20 hb
 clear hb
 rw [Rf.stand_eq]
 generalize hp2:p.cand1 cf draw=p2
 have HP2:=ld hp2
 clear hp2
 go_enter Tryz.func137,Tryz.ntmps137
 go_wp2
 go_region
 go_wp2_with (fail)
 generalize hW0:(((((w.setCell ⟨b,6,none⟩ (.int .i64 (s.term+1))).setCell ⟨b,7,none⟩ (.int .i64 s.id)).setCell ⟨b,12,none⟩ (.int .i64 3)).setCell ⟨b,13,none⟩ (.int .i64 0)).setCell ⟨b,20,none⟩ (.int .i64 0)).drew=W0
 have hB0:W0.heap[b]?=some (.cells (ncells { s with term:=s.term+1,vote:=s.id,role:=3,leader:=0,heir:=0 } c) 126 (0,0)):=by
  rw [←hW0]
  exact block_setCell (o:=20) (block_setCell (o:=13) (block_setCell (o:=12) (block_setCell (o:=7) (block_setCell (o:=6) h.blk (.int .i64 (s.term+1))) (.int .i64 s.id)) (.int .i64 3)) (.int .i64 0)) (.int .i64 0)
 have hC0:Chg (fun i=>i=b) w W0:=by rw [←hW0];exact (chg1 (chg1 (chg1 (chg1 (chg1 Chg.refl _) _) _) _) _).drew
 clear hW0 c0 c6 c7 hf c12 c13 c20
 refine (rest_any b _ c W0 hB0 g0 g1 g2).mono ?_
 rintro e W1 ⟨rfl,hC1,hB1⟩
 have hN1:=h.scal (s':=s.stand1) (hC0.trans hC1) hB1
 have hC1':Chg F w W1:=(hC0.trans hC1).mono fun i hi=>.inl (hi▸h.hb)
 have HN1:=ld hN1
 have HX:=ld h.rest.bdF
 clear hN1 hB0 hC0 hC1 hB1 h
 have hidd:(W1.heap[b]?)=some (.cells (ncells s.stand1 c) 126 (0,0)):=HN1.out.blk
 have c0:=nc0 hidd
 change W1.cell? ⟨b,0,none⟩=some (.int .i64 s.id) at c0
 clear hidd
 go_wp2_with (fail)
 rw [run_makeMap]
 have hm0:MB (W1.alloc (.map #[] 0)) W1.heap.size []:=MapG.made W1
 have hba:Below W1.heap.size W1 (W1.alloc (.map #[] 0)):=(Below.refl _ _).alloc (Nat.le_refl _) _
 have hza:(W1.alloc (.map #[] 0)).heap.size=W1.heap.size+1:=World.alloc_size _ _
 have c0a:(W1.alloc (.map #[] 0)).cell? ⟨b,0,none⟩=some (.int .i64 s.id):=(hba.cell (p:=⟨b,0,none⟩) HN1.out.lt).trans c0
 generalize W1.alloc (.map #[] 0)=Wa at hm0 hba hza c0a ⊢
 obtain ⟨W2,hrun,hM2,hg2,hz2⟩:=hm0.put KI Tryz.underlying53 s.id hidk ()
 have hb2:Below W1.heap.size W1 W2:=hba.grown hg2 (by omega) (fun k hk=>by injection hk with hk;omega)
 have hz2':W2.heap.size=W1.heap.size+1:=hz2.trans hza
 clear c0 hza hba hg2 hz2 hm0
 go_wp2_with (fail)
 clear hrun c0a
 rw [run_makeMap,hz2']
 have hm3:MB (W2.alloc (.map #[] 0)) (W1.heap.size+1) []:=by rw [←hz2'];exact MapG.made W2
 have hm2:MB (W2.alloc (.map #[] 0)) W1.heap.size [(s.id,())]:=MapG.alloc hM2 _
 have hb3:Below W1.heap.size W1 (W2.alloc (.map #[] 0)):=hb2.alloc (by omega) _
 have hz3:(W2.alloc (.map #[] 0)).heap.size=W1.heap.size+2:=by rw [World.alloc_size,hz2']
 generalize W2.alloc (.map #[] 0)=W3 at hm3 hm2 hb3 hz3 ⊢
 have HN3:=HN1.out.below hb3
 have hb:=HN3.blk
 have hf:=frozen_block hb
 have c21:=nc21 hb
 have c22:=nc22 hb
 have hN4:=stand_maps HN1.out rfl hb3 hz3 hm2 hm3
 have HN4:=ld hN4
 have HC3:=ld (hC1'.below hb3)
 clear hN4 hb HN3 hm2 hm3 hz2' hb2 hM2
 have HZ3:=ld hz3
 clear hz3
 go_wp2_with (fail)
 have hC4:Chg F w ((W3.setCell ⟨b,21,none⟩ (.map (some W1.heap.size))).setCell ⟨b,22,none⟩ (.map (some (W1.heap.size+1)))):=HC3.out.setCell (.inl HN1.out.hb) _ |>.setCell (.inl HN1.out.hb) _
 have hFF:=ld (show ∀ i,(F i∨(W1.heap.size≤i∧i<W1.heap.size+2))→F i∨w.heap.size≤i from fun i hi=>by
  have:=hC1'.size
  rcases hi with h | h
  ·exact .inl h
  ·right;omega)
 clear HC3 hf c21 c22 hb3 HZ3
 generalize (W3.setCell ⟨b,21,none⟩ (.map (some W1.heap.size))).setCell ⟨b,22,none⟩ (.map (some (W1.heap.size+1)))=W4 at HN4 hC4 ⊢
 clear HN1 hC1'
 generalize W1.heap.size=z at HN4 hFF ⊢
 have hnode:NodeAt W4 (fun i=>F i∨(z≤i∧i<z+2)) G b cf draw l0 (p.cand1 cf draw) ms:=by
  have hR:=HR.out
  refine ⟨_,_,HN4.out,?_,HMS.out,HFR.out⟩
  refine rest_rel (p:={ p with term:=p.term+1,vote:=p.id,role:=3,leader:=0,gr:=[p.id],rf:=[] }) ⟨hR.id,hR.cfg,⟨?_,hR.id⟩,⟨hR.zero.1,hR.zero.2.1,rfl⟩,hR.commit,⟨rfl,rfl⟩,hR.time,hR.draw,hR.peers,hR.log,fun h=>absurd (show (3:Nat)=4 from h) (by decide),fun _=>⟨⟨z,rfl⟩,?_⟩,fun _=>⟨⟨z+1,rfl⟩,rfl⟩,hR.sn⟩ HFT.out.time
  ·show s.term+1=((p.term+1:Nat):Int)
   have:=hR.hard.1;omega
  ·show [s.id]=ints [p.id]
   rw [hR.id];rfl
 have hgrew:Grew w W4 F G (fun i=>F i∨(z≤i∧i<z+2)) G:=Grew.ofChg hC4 (fun i hi=>.inl hi) hFF.out
 have hfit:Fits cf (p.cand1 cf draw):=by
  have h:=HFT.out
  exact ⟨h.n,h.time,h.batch,h.id,h.fin,by show p.term+1≤_;have:=HTM.out;omega,h.commit⟩
 have HND:=ld hnode
 have HGR:=ld hgrew
 have HFI:=ld hfit
 have HLT2:Hid ((p.cand1 cf draw).log.length<65536):=ld HLT.out
 rw [HP2.out] at HND HFI HLT2
 clear hnode hgrew hfit HN4 hC4 hFF HX HR HMS HFR HLT HTM HFT HP2 g0 g1 g2 t0 t1 hidk
 generalize (fun i=>F i∨(z≤i∧i<z+2))=F4 at HND HGR
 refine (majority_at HND.out 1 (by decide)).mono ?_
 rintro e W5 ⟨rfl,rfl⟩
 by_cases hm:Rf.maj cf 1=true
 ·have HMJ:=ld hm
  simp only
  rw [hm]
  clear hm
  go_wp2_with (fail)
  refine (lead_any HND.out HFI.out HLT2.out (by have:=HML.out;omega)).mono ?_
  rintro e W6 ⟨rfl,hA⟩
  have HA:=ld hA
  clear hA
  go_wp2
  refine bodyPost_ret (results_none rfl _ _ _) rfl ?_
  exact ⟨rfl,HA.out.of HGR.out⟩
 ·have hmf:Rf.maj cf 1=false:=by simpa using hm
  have HMJ:=ld hm
  simp only
  rw [hmf]
  clear hm hmf
  go_wp2_with (fail)
  refine (others_at HND.out HFI.out).mono ?_
  rintro e W6 ⟨A6,k6,rfl,ho6,hb6⟩
  have HO6:=ld (And.intro ho6 HND.out.bd)
  have HBB:=ld hb6
  have HND6:=ld (HND.out.below hb6)
  have hol:(ints (Rf.others cf p2.id)).length≤7:=others_len HFI.out
  generalize hos:ints (Rf.others cf p2.id)=os at HO6 hol ⊢
  have HOS:=ld hos
  clear hos ho6 hb6
  go_wp2_with (fail)
  go_loopw [6,55] (fun _ i wr=>∃ (j:Nat) (F7 G7:Nat→Prop),i=.int .i64 j∧j≤os.length∧Hid (NodeAt wr F7 G7 b cf draw l0 p2 (ms++((Rf.others cf p2.id).take j).map (voteM p2))∧Grew W6 wr F4 G F7 G7)) (fun _ i _=>os.length-(intOf i).toNat)
  case atStart=>exact ⟨0,F4,G,rfl,Nat.zero_le _,ld ⟨by simpa using HND6.out,Grew.refl⟩⟩
  case round =>
   obtain ⟨j,F7,G7,rfl,hj,HI⟩:=hrel
   by_cases hlt:j<os.length
   ·have hg:=List.getElem?_eq_getElem hlt
    have hrow:RowS encI 1 wr (fun i=>W5.heap.size≤i∧i<W6.heap.size) A6 os:=HO6.out.1.keep fun i hi=>HI.out.2.chg.keep hi.2 (by
     rintro (hf | hg)
     ·have:=HO6.out.2.1 i hf;omega
     ·have:=HO6.out.2.2.1 i hg;omega)
    obtain ⟨ba,o,rfl,_,c0⟩:=ints_at (hrow.row (B:=W6.heap.size) fun i hi=>hi.2) hg
    obtain ⟨q,hq,hx⟩:=ints_get HOS.out hg
    have HQ:=ld hq
    rw [hx] at c0
    clear hx
    clear hg hrow hq
    have hml7:(ms++((Rf.others cf p2.id).take j).map (voteM p2)).length≤900:=by
     rw [List.length_append,List.length_map,List.length_take];have:=HML.out;omega
    have HM7:=ld hml7
    clear hml7
    go_wp2_with (fail)
    refine (end_at HI.out.1 HFI.out).mono ?_
    rintro e W7 ⟨rfl,n7,rfl⟩
    go_wp2_with (fail)
    have HI7:=ld (And.intro (HI.out.1.drewN n7) (HI.out.2.below (below_drewN' (Below.refl _ _) n7)))
    clear HI c0
    generalize wr.drewN n7=W7 at HI7 ⊢
    refine (end_at HI7.out.1 HFI.out).mono ?_
    rintro e W8 ⟨rfl,n8,rfl⟩
    go_wp2_with (fail)
    have HI8:=ld (And.intro (HI7.out.1.drewN n8) (HI7.out.2.below (below_drewN' (Below.refl _ _) n8)))
    clear HI7
    generalize W7.drewN n8=W8 at HI8 ⊢
    refine (term_at HI8.out.1 HFI.out (Nat.le_refl _)).mono ?_
    rintro e W9 ⟨rfl,n9,rfl⟩
    go_wp2_with (fail)
    have HI9:=ld (And.intro (HI8.out.1.drewN n9) (HI8.out.2.below (below_drewN' (Below.refl _ _) n9)))
    clear HI8
    generalize W8.drewN n9=W9 at HI9 ⊢
    refine (send_at HI9.out.1 HM7.out ⟨3,0,0,0,p2.log.length,(p2.tm p2.log.length:Nat),0,none,0,0,false,0⟩ (voteM p2 q) rfl rfl rfl q rfl).mono ?_
    rintro e W10 ⟨rfl,F10,G10,hn10,hg10⟩
    have HI10:=ld (And.intro hn10 (HI9.out.2.trans hg10))
    clear HI9 hn10 hg10
    go_wp2_with (fail)
    go_roundw
    case rel =>
     refine ⟨j+1,F10,G10,by go_num,by omega,ld ⟨?_,HI10.out.2⟩⟩
     have:=HI10.out.1
     rw [List.append_assoc] at this
     rw [List.take_add_one,HQ.out,List.map_append]
     exact this
    case measure=>simp [intOf];omega
   ·have hjl:j=os.length:=by omega
    subst hjl
    go_wp2
    go_end0
    refine ⟨rfl,F7,G7,?_,(HGR.out.below HBB.out).trans HI.out.2⟩
    have:=HI.out.1
    rw [List.take_of_length_le (by rw [←HOS.out];simp [ints])] at this
    exact this
def Rf.Nd.pre1 (cf:Rf.Cfg) (draw:Int) (p:Rf.Nd):Rf.Nd:={ Rf.rest cf draw p with role:=2,leader:=0,gr:=[p.id] }
def preM (p:Rf.Nd) (q:Nat):Rf.Msg:={ kind:=1,src:=p.id,dst:=q,term:=p.term+1,idx:=p.fin,lt:=p.tm p.fin }
theorem Rf.begin_eq {cf:Rf.Cfg} {draw:Int} {p:Rf.Nd} (h:Rf.stuck (Rf.rest cf draw p)=false):Rf.begin_ cf draw p=if Rf.maj cf 1=true then Rf.stand cf draw (p.pre1 cf draw) else (p.pre1 cf draw,(Rf.others cf (p.pre1 cf draw).id).map (preM (p.pre1 cf draw))):=by
 unfold Rf.begin_
 simp only
 rw [if_neg (by simpa using h)]
 rfl
set_option maxRecDepth 100000 in
set_option maxHeartbeats 4000000 in
theorem begin_any {w:World} {F G:Nat→Prop} {b:Nat} {cf:Rf.Cfg} {draw:Int} {l0:List Rf.Ent} {p:Rf.Nd} {ms:List Rf.Msg} (h:NodeAt w F G b cf draw l0 p ms) (hf:Fits cf p) (hlt:p.log.length<65536) (htm:p.term<1000000) (hml:ms.length≤400) :
  Calls Tryz.prog 95 #[.pointer (some ⟨b,0,none⟩)] w fun e w'=>e=.returned (.tuple #[])∧After w w' F G b cf draw l0 (Rf.begin_ cf draw p).1 (ms++(Rf.begin_ cf draw p).2):=by
 have hstuck:Rf.stuck (Rf.rest cf draw p)=false:=by
  unfold Rf.stuck Rf.Nd.fin Rf.rest
  simp
  omega
 rw [Rf.begin_eq hstuck]
 have HS:=ld hstuck
 have HFT:=ld hf
 have HLT:=ld hlt
 have HTM:=ld htm
 have HML:=ld hml
 have HND0:=ld h
 generalize hp2:p.pre1 cf draw=p2
 have HP2:=ld hp2
 clear hp2 hf hlt htm hml h hstuck
 go_enter Tryz.func95,Tryz.ntmps95
 go_wp2_with (fail)
 refine (rest_at HND0.out HFT.out).mono ?_
 rintro e W1 ⟨rfl,F1,G1,hn1,hg1⟩
 have HND1:=ld hn1
 have HGR1:=ld hg1
 clear hn1 hg1 HND0
 have HFT1:Hid (Fits cf (Rf.rest cf draw p)):=ld ⟨HFT.out.n,HFT.out.time,HFT.out.batch,HFT.out.id,HFT.out.fin,HFT.out.term,HFT.out.commit⟩
 go_wp2_with (fail)
 refine (stuck_at HND1.out HFT1.out).mono ?_
 rintro e W1' ⟨rfl,nq,rfl⟩
 rw [HS.out]
 obtain ⟨s,c,hN2,hR2,hM2,hF2⟩:=HND1.out.drewN nq
 have HR:=ld hR2
 have HMS:=ld hM2
 have HFR:=ld hF2
 have HN2:=ld hN2
 have HGR2:=ld (HGR1.out.below (below_drewN' (Below.refl _ _) nq))
 clear hN2 hR2 hM2 hF2 HND1 HGR1
 generalize W1.drewN nq=W2 at HN2 HGR2 ⊢
 have hb:=HN2.out.blk
 have hf:=frozen_block hb
 have c12:=nc12 hb
 have c13:=nc13 hb
 have c20:=nc20 hb
 have hB3:=block_setCell (o:=20) (block_setCell (o:=13) (block_setCell (o:=12) hb (.int .i64 2)) (.int .i64 0)) (.int .i64 0)
 have HB3:=ld hB3
 have hidk:okI s.id:=by have:=HR.out.id;have:=HFT1.out.id;have:=HFT1.out.n;unfold okI;omega
 clear hb hB3
 go_wp2_with (fail)
 have hN3:=HN2.out.scal (s':={ s with role:=2,leader:=0,heir:=0 }) (chg1 (chg1 (chg1 Chg.refl (.int .i64 2)) (.int .i64 0)) (.int .i64 0)) HB3.out
 have hC3:Chg F1 W2 (((W2.setCell ⟨b,12,none⟩ (.int .i64 2)).setCell ⟨b,13,none⟩ (.int .i64 0)).setCell ⟨b,20,none⟩ (.int .i64 0)):=chgF (o:=20) (chgF (o:=13) (chgF (o:=12) Chg.refl HN2.out.hb (.int .i64 2)) HN2.out.hb (.int .i64 0)) HN2.out.hb (.int .i64 0)
 clear c12 c13 c20 hf HB3 HN2
 generalize ((W2.setCell ⟨b,12,none⟩ (.int .i64 2)).setCell ⟨b,13,none⟩ (.int .i64 0)).setCell ⟨b,20,none⟩ (.int .i64 0)=W3 at hN3 hC3 ⊢
 have HN3:=ld hN3
 have c0:=nc0 hN3.blk
 change W3.cell? ⟨b,0,none⟩=some (.int .i64 s.id) at c0
 rw [run_makeMap]
 have hm0:MB (W3.alloc (.map #[] 0)) W3.heap.size []:=MapG.made W3
 have hba:Below W3.heap.size W3 (W3.alloc (.map #[] 0)):=(Below.refl _ _).alloc (Nat.le_refl _) _
 have hza:(W3.alloc (.map #[] 0)).heap.size=W3.heap.size+1:=World.alloc_size _ _
 have c0a:(W3.alloc (.map #[] 0)).cell? ⟨b,0,none⟩=some (.int .i64 s.id):=(hba.cell (p:=⟨b,0,none⟩) hN3.lt).trans c0
 clear hN3 c0
 generalize W3.alloc (.map #[] 0)=Wa at hm0 hba hza c0a ⊢
 obtain ⟨W4,hrun,hM4,hg4,hz4⟩:=hm0.put KI Tryz.underlying53 s.id hidk ()
 have hb4:Below W3.heap.size W3 W4:=hba.grown hg4 (by omega) (fun k hk=>by injection hk with hk;omega)
 have hz4':W4.heap.size=W3.heap.size+1:=hz4.trans hza
 have HZ4:=ld hz4'
 have HM4:=ld hM4
 have hb9:=(HN3.out.below hb4).blk
 have hf9:=frozen_block hb9
 have c21:=nc21 hb9
 clear hza hba hg4 hz4 hm0 hz4' hM4 hb9
 go_wp2_with (fail)
 have hN5:=begin_maps HN3.out rfl hb4 HZ4.out HM4.out
 have hC5:=chgF (o:=21) (hC3.below hb4) HN3.out.hb (.map (some W3.heap.size))
 have hFF:=ld (show ∀ i,(F1 i∨(W3.heap.size≤i∧i<W3.heap.size+1))→F1 i∨W2.heap.size≤i from fun i hi=>by
  have:=hC3.size
  rcases hi with h | h
  ·exact .inl h
  ·right;omega)
 clear hrun c0a hf9 c21 HZ4 HM4 hb4 hC3 HN3
 generalize W4.setCell ⟨b,21,none⟩ (.map (some W3.heap.size))=W5 at hN5 hC5 ⊢
 generalize W3.heap.size=z at hN5 hFF ⊢
 have hnode:NodeAt W5 (fun i=>F1 i∨(z≤i∧i<z+1)) G1 b cf draw l0 p2 ms:=by
  have hR:=HR.out
  rw [←HP2.out]
  refine ⟨_,_,hN5,?_,HMS.out,HFR.out⟩
  refine ⟨hR.id,hR.cfg,hR.hard,⟨hR.zero.1,hR.zero.2.1,rfl⟩,hR.commit,⟨rfl,rfl⟩,hR.time,hR.draw,hR.peers,hR.log,fun h=>absurd (show (2:Nat)=4 from h) (by decide),fun _=>⟨⟨z,rfl⟩,?_⟩,fun h=>absurd (show (2:Nat)=3 from h) (by decide),hR.sn⟩
  show [s.id]=ints [p.id]
  rw [hR.id];rfl
 have hgrew:Grew w W5 F G (fun i=>F1 i∨(z≤i∧i<z+1)) G1:=HGR2.out.trans (Grew.ofChg hC5 (fun i hi=>.inl hi) hFF.out)
 have hfit:Fits cf p2:=by
  rw [←HP2.out]
  have h:=HFT.out
  exact ⟨h.n,h.time,h.batch,h.id,h.fin,h.term,h.commit⟩
 have HND:=ld hnode
 have HGR:=ld hgrew
 have HFI:=ld hfit
 have HLT2:Hid (p2.log.length<65536):=ld (by rw [←HP2.out];exact HLT.out)
 have HTM2:Hid (p2.term<1000000):=ld (by rw [←HP2.out];exact HTM.out)
 clear hnode hgrew hfit hN5 hC5 hFF HR HMS HFR HLT HTM HFT HFT1 HP2 HGR2 HS hidk
 generalize (fun i=>F1 i∨(z≤i∧i<z+1))=F4 at HND HGR
 refine (majority_at HND.out 1 (by decide)).mono ?_
 rintro e W6 ⟨rfl,rfl⟩
 by_cases hm:Rf.maj cf 1=true
 ·have HMJ:=ld hm
  simp only
  rw [hm]
  clear hm
  go_wp2_with (fail)
  refine (stand_any HND.out HFI.out HLT2.out HTM2.out HML.out).mono ?_
  rintro e W6 ⟨rfl,hA⟩
  have HA:=ld hA
  clear hA
  go_wp2
  refine bodyPost_ret (results_none rfl _ _ _) rfl ?_
  exact ⟨rfl,HA.out.of HGR.out⟩
 ·have hmf:Rf.maj cf 1=false:=by simpa using hm
  have HMJ:=ld hm
  simp only
  rw [hmf]
  clear hm hmf
  go_wp2_with (fail)
  refine (others_at HND.out HFI.out).mono ?_
  rintro e W7 ⟨A6,k6,rfl,ho6,hb6⟩
  have HO6:=ld (And.intro ho6 HND.out.bd)
  have HBB:=ld hb6
  have HND6:=ld (HND.out.below hb6)
  have hol:(ints (Rf.others cf p2.id)).length≤7:=others_len HFI.out
  generalize hos:ints (Rf.others cf p2.id)=os at HO6 hol ⊢
  have HOS:=ld hos
  clear hos ho6 hb6
  go_wp2_with (fail)
  go_loopw [3,34] (fun _ i wr=>∃ (j:Nat) (F7 G7:Nat→Prop),i=.int .i64 j∧j≤os.length∧Hid (NodeAt wr F7 G7 b cf draw l0 p2 (ms++((Rf.others cf p2.id).take j).map (preM p2))∧Grew W7 wr F4 G1 F7 G7)) (fun _ i _=>os.length-(intOf i).toNat)
  case atStart=>exact ⟨0,F4,G1,rfl,Nat.zero_le _,ld ⟨by simpa using HND6.out,Grew.refl⟩⟩
  case round =>
   obtain ⟨j,F7,G7,rfl,hj,HI⟩:=hrel
   by_cases hlt:j<os.length
   ·have hg:=List.getElem?_eq_getElem hlt
    have hrow:RowS encI 1 wr (fun i=>W6.heap.size≤i∧i<W7.heap.size) A6 os:=HO6.out.1.keep fun i hi=>HI.out.2.chg.keep hi.2 (by
     rintro (hf | hg)
     ·have:=HO6.out.2.1 i hf;omega
     ·have:=HO6.out.2.2.1 i hg;omega)
    obtain ⟨ba,o,rfl,_,c0⟩:=ints_at (hrow.row (B:=W7.heap.size) fun i hi=>hi.2) hg
    obtain ⟨q,hq,hx⟩:=ints_get HOS.out hg
    have HQ:=ld hq
    rw [hx] at c0
    clear hx
    clear hg hrow hq
    have hml7:(ms++((Rf.others cf p2.id).take j).map (preM p2)).length≤900:=by
     rw [List.length_append,List.length_map,List.length_take];have:=HML.out;omega
    have HM7:=ld hml7
    have c6:=HI.out.1.c6
    have HI0:Hid (NodeAt wr.drew F7 G7 b cf draw l0 p2 (ms++((Rf.others cf p2.id).take j).map (preM p2))∧Grew W7 wr.drew F4 G1 F7 G7):=ld ⟨HI.out.1.drewN 1,HI.out.2.below (below_drewN' (Below.refl _ _) 1)⟩
    have HIN:Hid (∀ n,NodeAt (wr.drewN n) F7 G7 b cf draw l0 p2 (ms++((Rf.others cf p2.id).take j).map (preM p2))∧Grew W7 (wr.drewN n) F4 G1 F7 G7):=ld fun n=>⟨HI.out.1.drewN n,HI.out.2.below (below_drewN' (Below.refl _ _) n)⟩
    have hlt6:=HI.out.1.lt
    have hW:IntKind.i64.wrap ((p2.term:Int)+1)=(p2.term:Int)+1:=IntWalk.i64_in _ (by have:=HTM2.out;omega)
    clear hml7 HI
    go_wp2_with (fail)
    refine wp_region_held_drew (S:=fun W:World=>W.cell? ⟨b,6,none⟩=some (.int .i64 (p2.term:Int))) (by kernel_rfl) c6 (fun hHeld=>?_)
    refine tks 0 (.pointer (some ⟨b,0,none⟩)) ?_
    refine tks 1 (.int .i64 (q:Int)) ?_
    refine tks 2 (.pointer (some ⟨b,0,none⟩)) ?_
    refine tks 3 (.pointer (some ⟨b,0,none⟩)) ?_
    refine tks 4 (.pointer (some ⟨b,6,none⟩)) ?_
    refine tks 5 (.pointer (some ⟨b,6,none⟩)) ?_
    refine tks 6 (.int .i64 (p2.term:Int)) ?_
    refine tks 7 (.int .i64 ((p2.term:Int)+1)) ?_
    refine tks 8 (.pointer (some ⟨b,0,none⟩)) ?_
    refine tks 10 (.pointer (some ⟨b,0,none⟩)) ?_
    refine tks 11 (.pointer (some ⟨b,0,none⟩)) ?_
    refine rdy 9 fun K hK=>?_
    go_simp
    refine (end_at (HI0.out.1) HFI.out).mono ?_
    rintro e w7 ⟨rfl,n7,rfl⟩
    go_wp2_with fail
    refine hks hK ?_ fun hHeld=>?_
    ·exact c6
    clear hK K
    refine rdy 12 fun K hK=>?_
    go_simp
    refine (end_at (HIN.out _).1 HFI.out).mono ?_
    rintro e w8 ⟨rfl,n8,rfl⟩
    go_wp2_with fail
    refine hks hK ?_ fun hHeld=>?_
    ·exact c6
    clear hK K
    refine rdy 13 fun K hK=>?_
    go_simp
    refine (term_at (HIN.out _).1 HFI.out (Nat.le_refl _)).mono ?_
    rintro e w9 ⟨rfl,n9,rfl⟩
    go_wp2_with fail
    refine hks hK ?_ fun hHeld=>?_
    ·exact c6
    clear hK K
    refine tks 14 (.agg #[.int .i64 1,.int .i64 0,.int .i64 0,.int .i64 ((p2.term:Int)+1),.int .i64 (p2.log.length:Int),.int .i64 ((p2.tm p2.log.length:Nat):Int),.int .i64 0,.slice none 0 0,.bool false,.int .i64 0]) ?_
    refine rdy 15 fun K hK=>?_
    go_simp
    refine (send_at (HIN.out _).1 HM7.out ⟨1,0,0,(p2.term:Int)+1,p2.log.length,(p2.tm p2.log.length:Nat),0,none,0,0,false,0⟩ (preM p2 q) rfl rfl rfl q (by unfold MR.sent;rw [if_neg (by show ¬ ((p2.term:Int)+1=0);omega)];rfl)).mono ?_
    rintro e w10 ⟨rfl,F10,G10,hn10,hg10⟩
    have HI10:=ld (And.intro hn10 ((HIN.out _).2.trans hg10))
    have c6':=hn10.c6
    clear hn10 hg10
    go_wp2_with fail
    refine hks hK ?_ fun hHeld=>?_
    ·exact c6'
    clear hK K
    refine don ?_
    go_wp2_with fail
    go_roundw
    case rel =>
     refine ⟨j+1,F10,G10,by go_num,by omega,ld ⟨?_,HI10.out.2⟩⟩
     have:=HI10.out.1
     rw [List.append_assoc] at this
     rw [List.take_add_one,HQ.out,List.map_append]
     exact this
    case measure=>simp [intOf];omega
   ·have hjl:j=os.length:=by omega
    subst hjl
    go_wp2
    go_end0
    refine ⟨rfl,F7,G7,?_,(HGR.out.below HBB.out).trans HI.out.2⟩
    have:=HI.out.1
    rw [List.take_of_length_le (by rw [←HOS.out];simp [ints])] at this
    exact this
section
variable {w w1 w2:World} {F G:Nat→Prop} {b:Nat} {cf:Rf.Cfg} {draw:Int} {l0:List Rf.Ent} {p:Rf.Nd} {ms:List Rf.Msg}
theorem below_alloc1 (w:World) (o:Obj):Below w.heap.size w (w.alloc o):=(Below.refl _ _).alloc (Nat.le_refl _) o
theorem NodeAt.set14 (h:NodeAt w F G b cf draw l0 p ms) (v:Nat) (x:Int) (hx:x=v):NodeAt (w.setCell ⟨b,14,none⟩ (.int .i64 x)) F G b cf draw l0 { p with elapsed:=v } ms:=by
 obtain ⟨s,c,hN,h,h2⟩:=h
 exact ⟨{ s with elapsed:=x },c,hN.scal (chg1 Chg.refl _) (block_setCell (o:=14) hN.blk _),⟨h.id,h.cfg,h.hard,h.zero,h.commit,h.role,⟨hx,h.time.2⟩,h.draw,h.peers,h.log,h.lead,h.gr,h.rf,h.sn⟩,h2⟩
theorem NodeAt.set19 (h:NodeAt w F G b cf draw l0 p ms) (v:Nat) (x:Int) (hx:x=v):NodeAt (w.setCell ⟨b,19,none⟩ (.int .i64 x)) F G b cf draw l0 { p with beat:=v } ms:=by
 obtain ⟨s,c,hN,h,h2⟩:=h
 exact ⟨{ s with beat:=x },c,hN.scal (chg1 Chg.refl _) (block_setCell (o:=19) hN.blk _),⟨h.id,h.cfg,h.hard,h.zero,h.commit,h.role,⟨h.time.1,h.time.2.1,hx⟩,h.draw,h.peers,h.log,h.lead,h.gr,h.rf,h.sn⟩,h2⟩
theorem NodeAt.set20 (h:NodeAt w F G b cf draw l0 p ms):NodeAt (w.setCell ⟨b,20,none⟩ (.int .i64 0)) F G b cf draw l0 p ms:=by
 obtain ⟨s,c,hN,h,h2⟩:=h
 exact ⟨{ s with heir:=0 },c,hN.scal (chg1 Chg.refl _) (block_setCell (o:=20) hN.blk _),⟨h.id,h.cfg,h.hard,⟨h.zero.1,h.zero.2.1,rfl⟩,h.commit,h.role,h.time,h.draw,h.peers,h.log,h.lead,h.gr,h.rf,h.sn⟩,h2⟩
theorem Grew.setCell {w w1:World} {F G F1 G1:Nat→Prop} (h:Grew w w1 F G F1 G1) {o:Nat} (hb:F1 b) (u:Value):Grew w (w1.setCell ⟨b,o,none⟩ u) F G F1 G1 :=
 h.trans (Grew.ofChg (chgF Chg.refl hb u) (fun _ h=>h) fun _ h=>.inl h)
theorem NodeAt.hd18 (h:NodeAt w F G b cf draw l0 p ms) (h4:p.role=4):∃ (m:Nat) (l:List (Int×Unit)),w.cell? ⟨b,18,none⟩=some (.map (some m))∧MB w m l∧l.map (·.1)=ints p.hd ∧
  ∀ w' (l':List (Int×Unit)) (hd':List Nat),MB w' m l'→l'.map (·.1)=ints hd'→w.grownBy w' (some m)→NodeAt w' F G b cf draw l0 { p with hd:=hd' } ms∧Grew w w' F G F G:=by
 obtain ⟨s,c,hN,h,h2⟩:=h
 obtain ⟨⟨a,b',d,e1,e2,e3⟩,h5,h6,h7⟩:=h.lead h4
 have hh:=hN.rest.hd
 rw [e3] at hh
 refine ⟨d,c.hd,by have:=nc18 hN.blk;rwa [e3] at this,hh.2,h7,fun w' l' hd' hM hl hg=>?_⟩
 refine ⟨⟨s,_,hN.put_hd e3 hM hg,⟨h.id,h.cfg,h.hard,h.zero,h.commit,h.role,h.time,h.draw,h.peers,h.log,fun _=>⟨⟨a,b',d,e1,e2,e3⟩,h5,h6,hl⟩,h.gr,h.rf,h.sn⟩,h2⟩,Grew.ofChg (Chg.refl.grown hg fun k hk=>.inl ?_) (fun _ h=>h) fun _ h=>.inl h⟩
 injection hk with hk
 rw [←hk];exact hh.1
end
theorem cell_off {w:World} {b o o':Nat} {u:Value} {arr:Array Value} {t:TypeId} {fz:Nat×Nat} (h:w.heap[b]?=some (.cells arr t fz)) (hne:o≠o'):(w.setCell ⟨b,o,none⟩ u).cell? ⟨b,o',none⟩=w.cell? ⟨b,o',none⟩:=by
 have h1:=block_setCell (o:=o) h u
 simp [World.cell?,h1,h,Array.getElem?_setIfInBounds_ne hne]
theorem tick_eqA_yes {cf:Rf.Cfg} {draw:Int} {p:Rf.Nd} (h4:p.role=4) (hm:¬ cf.most≤p.elapsed+1) (hb:cf.beat≤p.beat+1):Rf.tick cf draw p=({ p with elapsed:=p.elapsed+1,beat:=0 },Rf.apps cf { p with elapsed:=p.elapsed+1,beat:=0 }):=by
 unfold Rf.tick
 simp only
 rw [if_neg (by simpa using h4),if_neg (fun h=>hm h.1),if_neg hm,if_pos hb]
theorem tick_eqA_no {cf:Rf.Cfg} {draw:Int} {p:Rf.Nd} (h4:p.role=4) (hm:¬ cf.most≤p.elapsed+1) (hb:¬ cf.beat≤p.beat+1):Rf.tick cf draw p=({ p with elapsed:=p.elapsed+1,beat:=p.beat+1 },[]):=by
 unfold Rf.tick
 simp only
 rw [if_neg (by simpa using h4),if_neg (fun h=>hm h.1),if_neg hm,if_neg hb]
theorem tick_eqB_yes {cf:Rf.Cfg} {draw:Int} {p:Rf.Nd} (h4:p.role=4) (hm:cf.most≤p.elapsed+1∧Rf.maj cf (1+p.hd.length)=true) (hb:cf.beat≤p.beat+1):Rf.tick cf draw p=({ p with elapsed:=0,beat:=0,hd:=[] },Rf.apps cf { p with elapsed:=0,beat:=0,hd:=[] }):=by
 unfold Rf.tick
 simp only
 rw [if_neg (by simpa using h4),if_neg (fun h=>h.2 hm.2),if_pos hm.1,if_pos hb]
theorem tick_eqB_no {cf:Rf.Cfg} {draw:Int} {p:Rf.Nd} (h4:p.role=4) (hm:cf.most≤p.elapsed+1∧Rf.maj cf (1+p.hd.length)=true) (hb:¬ cf.beat≤p.beat+1):Rf.tick cf draw p=({ p with elapsed:=0,beat:=p.beat+1,hd:=[] },[]):=by
 unfold Rf.tick
 simp only
 rw [if_neg (by simpa using h4),if_neg (fun h=>h.2 hm.2),if_pos hm.1,if_neg hb]
theorem tick_eqC {cf:Rf.Cfg} {draw:Int} {p:Rf.Nd} (h4:p.role=4) (hm:cf.most≤p.elapsed+1∧¬ Rf.maj cf (1+p.hd.length)=true):Rf.tick cf draw p=(Rf.follow cf draw p.term 0 { p with elapsed:=0,beat:=p.beat+1 },[]):=by
 unfold Rf.tick
 simp only
 rw [if_neg (by simpa using h4),if_pos hm]
set_option maxRecDepth 100000 in
set_option maxHeartbeats 4000000 in
theorem tick_any {w:World} {F G:Nat→Prop} {b:Nat} {cf:Rf.Cfg} {draw:Int} {l0:List Rf.Ent} {p:Rf.Nd} {ms:List Rf.Msg} (ev:Array Value) (h:NodeAt w F G b cf draw l0 p ms) (hf:Fits cf p) (hlt:p.log.length<65536) (htm:p.term<1000000) (hml:ms.length≤400)
  (he:p.elapsed≤100000) (hbt:p.beat≤100000) (hhd:p.hd.length≤900) (hnx:p.role=4→∀ q∈Rf.others cf p.id,1≤p.nx q∧p.nx q≤p.log.length+1) :
  Calls Tryz.prog 72 #[.pointer (some ⟨b,0,none⟩),.agg ev] w fun e w'=>e=.returned (.int .i64 0)∧After w w' F G b cf draw l0 (Rf.tick cf draw p).1 (ms++(Rf.tick cf draw p).2):=by
 have c14:=h.c14
 have c12:=h.c12
 have c15:=h.c15
 have c19:=h.c19
 obtain ⟨arr,hb⟩:=h.arr
 have hfz:=frozen_block hb
 have hbl:=h.lt
 clear hb
 have HND:=ld h
 have HFT:=ld hf
 have HLT:=ld hlt
 have HTM:=ld htm
 have HML:=ld hml
 have he0:(0:Int)≤(p.elapsed:Int):=by omega
 have he1:(p.elapsed:Int)≤100000:=by omega
 have hb0:(0:Int)≤(p.beat:Int):=by omega
 have hb1:(p.beat:Int)≤100000:=by omega
 by_cases hr:p.role=4
 ·have HR:=ld hr
  have HNX:=ld (hnx hr)
  have hrb:((p.role:Int) != 4)=false:=by rw [bne_eq_false_iff_eq];omega
  have HND1:=ld ((((h.set14 (p.elapsed+1) ((p.elapsed:Int)+1) (by omega)).set19 (p.beat+1) ((p.beat:Int)+1) (by show _=((p.beat+1:Nat):Int);omega))).below (below_alloc1 _ (.cells ev 61)))
  have HGR1:=ld (((Grew.refl (w:=w) (F:=F) (G:=G)).setCell (o:=14) h.hb (.int .i64 ((p.elapsed:Int)+1)) |>.setCell (o:=19) h.hb (.int .i64 ((p.beat:Int)+1))).below (below_alloc1 _ (.cells ev 61)))
  have HHD:=ld hhd
  clear hr hnx hf hlt htm hml h hhd
  go_enter Tryz.func72,Tryz.ntmps72
  go_wp2
  generalize ((w.setCell ⟨b,14,none⟩ (.int .i64 ((p.elapsed:Int)+1))).setCell ⟨b,19,none⟩ (.int .i64 ((p.beat:Int)+1))).alloc (.cells ev 61)=W at HND1 HGR1 ⊢
  clear c14 c12 c15 c19 hfz hbl HND
  have d14:W.cell? ⟨b,14,none⟩=some (.int .i64 ((p.elapsed:Int)+1)):=HND1.out.c14
  have d3:=HND1.out.c3
  by_cases hmo:cf.most≤p.elapsed+1
  ·have hmb:(cf.most:Int)≤(p.elapsed:Int)+1:=by omega
   go_quiet (fail)
   have HN2:=ld (HND1.out.drewN nq)
   have HG2:=ld (HGR1.out.below (below_drewN' (Below.refl _ _) nq))
   clear HND1 HGR1 d14 d3
   generalize W.drewN nq=W2 at HN2 HG2 ⊢
   have e14:W2.cell? ⟨b,14,none⟩=some (.int .i64 ((p.elapsed:Int)+1)):=HN2.out.c14
   have e20:=HN2.out.c20
   obtain ⟨arr2,hb2⟩:=HN2.out.arr
   have hf2:=frozen_block hb2
   have harr2:=hb2
   clear hb2
   have HN3:=ld ((HN2.out.set14 0 0 rfl).set20)
   have HG3:=ld ((HG2.out.setCell (o:=14) HN2.out.hb (.int .i64 0)).setCell (o:=20) HN2.out.hb (.int .i64 0))
   obtain ⟨m,l,hc18,hM,hl,hput⟩:=HN3.out.hd18 HR.out
   have hlen:=hM.len Tryz.underlying53
   have hll:l.length=p.hd.length:=by have:=congrArg List.length hl;simpa [ints] using this
   rw [hll] at hlen
   have HM3:=ld (And.intro hM hput)
   have HC18:=ld hc18
   have hW:IntKind.i64.wrap (1+(p.hd.length:Int))=((1+p.hd.length:Nat):Int):=by rw [IntWalk.i64_in _ (by have:=HHD.out;omega)];omega
   have hc18':W2.cell? ⟨b,18,none⟩=some (.map (some m)):=by
    rw [←cell_off harr2 (o:=14) (u:=.int .i64 0) (by decide),←cell_off (block_setCell (o:=14) harr2 (.int .i64 0)) (o:=20) (u:=.int .i64 0) (by decide)]
    exact hc18
   clear hM hput hl hll hc18 harr2
   go_wp2_with (fail)
   generalize (W2.setCell ⟨b,14,none⟩ (.int .i64 0)).setCell ⟨b,20,none⟩ (.int .i64 0)=W3 at HN3 HG3 HM3 HC18 hlen ⊢
   clear HN2 HG2 e14 e20 hf2 hc18'
   refine (majority_at HN3.out (1+p.hd.length) (by have:=HHD.out;omega)).mono ?_
   rintro e W4 ⟨rfl,rfl⟩
   clear hlen hW
   by_cases hmj:Rf.maj cf (1+p.hd.length)=true
   ·have HMO:=ld (And.intro hmo hmj)
    have hc18:=HC18.out
    simp only
    rw [hmj]
    clear hmj hmo
    obtain ⟨W5,hrun,hM5,hg5,hz5⟩:=HM3.out.1.clear Tryz.underlying53 0
    go_wp2_with (fail)
    obtain ⟨h5,g5⟩:=HM3.out.2 W5 [] [] hM5 rfl hg5
    have HN:=ld h5
    have HG:=ld (HG3.out.trans g5)
    clear h5 g5 hM5 hg5 hz5 hrun hc18 HM3 HC18 HN3 HG3
    by_cases hbt2:cf.beat≤p.beat+1
    ·have hbb:(cf.beat:Int)≤(p.beat:Int)+1:=by omega
     have HBT:=ld hbt2
     have d19:W5.cell? ⟨b,19,none⟩=some (.int .i64 ((p.beat:Int)+1)):=HN.out.c19
     have d4:=HN.out.c4
     clear hbt2
     go_wp2
     go_quiet (fail)
     have HN3:=ld (HN.out.drewN nq)
     have HG3:=ld (HG.out.below (below_drewN' (Below.refl _ _) nq))
     clear HN HG d19 d4
     generalize W5.drewN nq=W3 at HN3 HG3 ⊢
     have e19:W3.cell? ⟨b,19,none⟩=some (.int .i64 ((p.beat:Int)+1)):=HN3.out.c19
     obtain ⟨arr3,hb3⟩:=HN3.out.arr
     have hf3:=frozen_block hb3
     clear hb3
     go_wp2_with (fail)
     have HN4:=ld (HN3.out.set19 0 0 rfl)
     have HG4:=ld (HG3.out.setCell (o:=19) HN3.out.hb (.int .i64 0))
     clear HN3 HG3 e19 hf3
     generalize W3.setCell ⟨b,19,none⟩ (.int .i64 0)=W4 at HN4 HG4 ⊢
     refine (apps_any HN4.out ⟨HFT.out.n,HFT.out.time,HFT.out.batch,HFT.out.id,HFT.out.fin,HFT.out.term,HFT.out.commit⟩ HR.out HNX.out (by have:=HML.out;omega)).mono ?_
     rintro e W5 ⟨rfl,hA⟩
     have HA:=ld hA
     clear hA
     go_wp2
     go_ret
     refine ⟨rfl,?_⟩
     rw [tick_eqB_yes HR.out HMO.out HBT.out]
     have:=HA.out.of HG4.out
     exact this
    ·have hbb:¬ ((cf.beat:Int)≤(p.beat:Int)+1):=by omega
     have HBT:=ld hbt2
     have d19:W5.cell? ⟨b,19,none⟩=some (.int .i64 ((p.beat:Int)+1)):=HN.out.c19
     have d4:=HN.out.c4
     clear hbt2
     go_wp2
     go_quiet (fail)
     go_wp2
     go_ret
     refine ⟨rfl,?_⟩
     rw [tick_eqB_no HR.out HMO.out HBT.out]
     rw [List.append_nil]
     exact ⟨F,G,HN.out.drewN nq,HG.out.below (below_drewN' (Below.refl _ _) nq)⟩
   ·have hmf:Rf.maj cf (1+p.hd.length)=false:=by simpa using hmj
    have HMO:=ld (And.intro hmo hmj)
    have d6:=HN3.out.c6
    simp only
    rw [hmf]
    clear hmf hmj hmo
    go_wp2_with (fail)
    refine (follow_at HN3.out ⟨HFT.out.n,HFT.out.time,HFT.out.batch,HFT.out.id,HFT.out.fin,HFT.out.term,HFT.out.commit⟩ p.term 0).mono ?_
    rintro e W5 ⟨rfl,hA⟩
    have HA:=ld hA
    clear hA
    go_wp2
    go_ret
    refine ⟨rfl,?_⟩
    rw [tick_eqC HR.out HMO.out,List.append_nil]
    exact HA.out.of HG3.out
  ·have hmb:¬ ((cf.most:Int)≤(p.elapsed:Int)+1):=by omega
   have HMO:=ld hmo
   clear hmo
   go_quiet (fail)
   have HN:=ld (HND1.out.drewN nq)
   have HG:=ld (HGR1.out.below (below_drewN' (Below.refl _ _) nq))
   clear HND1 HGR1 d14 d3
   generalize W.drewN nq=W2 at HN HG ⊢
   by_cases hbt2:cf.beat≤p.beat+1
   ·have hbb:(cf.beat:Int)≤(p.beat:Int)+1:=by omega
    have HBT:=ld hbt2
    have d19:W2.cell? ⟨b,19,none⟩=some (.int .i64 ((p.beat:Int)+1)):=HN.out.c19
    have d4:=HN.out.c4
    clear hbt2
    go_wp2
    go_quiet (fail)
    have HN3:=ld (HN.out.drewN nq)
    have HG3:=ld (HG.out.below (below_drewN' (Below.refl _ _) nq))
    clear HN HG d19 d4
    generalize W2.drewN nq=W3 at HN3 HG3 ⊢
    have e19:W3.cell? ⟨b,19,none⟩=some (.int .i64 ((p.beat:Int)+1)):=HN3.out.c19
    obtain ⟨arr3,hb3⟩:=HN3.out.arr
    have hf3:=frozen_block hb3
    clear hb3
    go_wp2_with (fail)
    have HN4:=ld (HN3.out.set19 0 0 rfl)
    have HG4:=ld (HG3.out.setCell (o:=19) HN3.out.hb (.int .i64 0))
    clear HN3 HG3 e19 hf3
    generalize W3.setCell ⟨b,19,none⟩ (.int .i64 0)=W4 at HN4 HG4 ⊢
    refine (apps_any HN4.out ⟨HFT.out.n,HFT.out.time,HFT.out.batch,HFT.out.id,HFT.out.fin,HFT.out.term,HFT.out.commit⟩ HR.out HNX.out (by have:=HML.out;omega)).mono ?_
    rintro e W5 ⟨rfl,hA⟩
    have HA:=ld hA
    clear hA
    go_wp2
    go_ret
    refine ⟨rfl,?_⟩
    rw [tick_eqA_yes HR.out HMO.out HBT.out]
    have:=HA.out.of HG4.out
    exact this
   ·have hbb:¬ ((cf.beat:Int)≤(p.beat:Int)+1):=by omega
    have HBT:=ld hbt2
    have d19:W2.cell? ⟨b,19,none⟩=some (.int .i64 ((p.beat:Int)+1)):=HN.out.c19
    have d4:=HN.out.c4
    clear hbt2
    go_wp2
    go_quiet (fail)
    go_wp2
    go_ret
    refine ⟨rfl,?_⟩
    rw [tick_eqA_no HR.out HMO.out HBT.out]
    rw [List.append_nil]
    exact ⟨F,G,HN.out.drewN nq,HG.out.below (below_drewN' (Below.refl _ _) nq)⟩
 ·have HR:=ld hr
  have hrb:((p.role:Int) != 4)=true:=by rw [bne_iff_ne];omega
  have HND1:=ld ((h.set14 (p.elapsed+1) ((p.elapsed:Int)+1) (by omega)).below (below_alloc1 _ (.cells ev 61)))
  have HGR1:=ld (((Grew.refl (w:=w) (F:=F) (G:=G)).setCell (o:=14) h.hb (.int .i64 ((p.elapsed:Int)+1))).below (below_alloc1 _ (.cells ev 61)))
  have e0:Rf.tick cf draw p=if p.timeout≤p.elapsed+1 then Rf.begin_ cf draw { p with elapsed:=p.elapsed+1 } else ({ p with elapsed:=p.elapsed+1 },[]):=by
   unfold Rf.tick
   simp only
   rw [if_pos hr]
  rw [e0]
  have HF1:Hid (Fits cf { p with elapsed:=p.elapsed+1 }):=ld ⟨hf.n,hf.time,hf.batch,hf.id,hf.fin,hf.term,hf.commit⟩
  clear hr hnx hf hlt htm hml h e0
  by_cases ht:p.timeout≤p.elapsed+1
  ·rw [if_pos ht]
   have htb:(p.timeout:Int)≤(p.elapsed:Int)+1:=by omega
   go_enter Tryz.func72,Tryz.ntmps72
   go_wp2
   generalize (w.setCell ⟨b,14,none⟩ (.int .i64 ((p.elapsed:Int)+1))).alloc (.cells ev 61)=W at HND1 HGR1 ⊢
   clear c14 c12 c15 c19 hfz hbl HND
   have d14:W.cell? ⟨b,14,none⟩=some (.int .i64 ((p.elapsed:Int)+1)):=HND1.out.c14
   have d15:=HND1.out.c15
   go_quiet (fail)
   have HN2:=ld (HND1.out.drewN nq)
   have HG2:=ld (HGR1.out.below (below_drewN' (Below.refl _ _) nq))
   clear HND1 HGR1 d14 d15
   generalize W.drewN nq=W2 at HN2 HG2 ⊢
   go_wp2_with (fail)
   refine (begin_any HN2.out HF1.out HLT.out HTM.out HML.out).mono ?_
   rintro e W3 ⟨rfl,hA⟩
   have HA:=ld hA
   clear hA
   go_wp2
   go_ret
   exact ⟨rfl,HA.out.of HG2.out⟩
  ·rw [if_neg ht]
   have htb:¬ ((p.timeout:Int)≤(p.elapsed:Int)+1):=by omega
   go_enter Tryz.func72,Tryz.ntmps72
   go_wp2
   generalize (w.setCell ⟨b,14,none⟩ (.int .i64 ((p.elapsed:Int)+1))).alloc (.cells ev 61)=W at HND1 HGR1 ⊢
   clear c14 c12 c15 c19 hfz hbl HND
   have d14:W.cell? ⟨b,14,none⟩=some (.int .i64 ((p.elapsed:Int)+1)):=HND1.out.c14
   have d15:=HND1.out.c15
   go_quiet (fail)
   go_wp2
   go_ret
   refine ⟨rfl,F,G,?_,HGR1.out.below (below_drewN' (Below.refl _ _) nq)⟩
   exact HND1.out.drewN nq
end Go.Proofs.YtocogcgnahbpkaaGreat
