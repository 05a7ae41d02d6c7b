import Derived.Test.YtocogcgnahbpkaaGreatC12
import Derived.Test.YtocogcgnahbpkaaGreatC42
namespace Go.Proofs.YtocogcgnahbpkaaGreat
open Go.RowKit
theorem cell_heap8 {w w':World} {b:Nat} (h:w'.heap[b]?=w.heap[b]?) (o:Nat):w'.cell? ⟨b,o,none⟩=w.cell? ⟨b,o,none⟩:=by simp only [World.cell?,h]
theorem store6g {w:World} {y:Nat} {c0 c1 c2 c3 c4 c5:Value} {t:TypeId} (h:w.heap[y]?=some (.cells #[c0,c1,c2,c3,c4,c5] t (0,0))) (v0 v1 v2 v3 v4 v5:Value) :
  (((((((w.setCell ⟨y,0,none⟩ v0).setCell ⟨y,1,none⟩ v1).setCell ⟨y,2,none⟩ v2).setCell ⟨y,3,none⟩ v3).setCell ⟨y,4,none⟩ v4).setCell ⟨y,5,none⟩ v5)).heap[y]?=some (.cells #[v0,v1,v2,v3,v4,v5] t (0,0))∧(∀ i,i≠y→(((((((w.setCell ⟨y,0,none⟩ v0).setCell ⟨y,1,none⟩ v1).setCell ⟨y,2,none⟩ v2).setCell ⟨y,3,none⟩ v3).setCell ⟨y,4,none⟩ v4).setCell ⟨y,5,none⟩ v5)).heap[i]?=w.heap[i]?)∧(((((((w.setCell ⟨y,0,none⟩ v0).setCell ⟨y,1,none⟩ v1).setCell ⟨y,2,none⟩ v2).setCell ⟨y,3,none⟩ v3).setCell ⟨y,4,none⟩ v4).setCell ⟨y,5,none⟩ v5)).heap.size=w.heap.size∧(∀ (B:Nat) (w0:World),B≤y→Below B w0 w→Below B w0 (((((((w.setCell ⟨y,0,none⟩ v0).setCell ⟨y,1,none⟩ v1).setCell ⟨y,2,none⟩ v2).setCell ⟨y,3,none⟩ v3).setCell ⟨y,4,none⟩ v4).setCell ⟨y,5,none⟩ v5))):=by
 refine ⟨?_,fun i hi=>?_,?_,fun B w0 hB hb=>?_⟩
 ·have e:=(block_setCell (o:=5) (block_setCell (o:=4) (block_setCell (o:=3) (block_setCell (o:=2) (block_setCell (o:=1) (block_setCell (o:=0) h v0) v1) v2) v3) v4) v5)
  rw [e];simp
 ·rw [Below.heap_setCell _ _ _ _ hi,Below.heap_setCell _ _ _ _ hi,Below.heap_setCell _ _ _ _ hi,Below.heap_setCell _ _ _ _ hi,Below.heap_setCell _ _ _ _ hi,Below.heap_setCell _ _ _ _ hi]
 ·simp only [World.setCell,Array.size_modify]
 ·exact ((((((hb.setCell (p:=⟨y,0,none⟩) hB _).setCell (p:=⟨y,1,none⟩) hB _).setCell (p:=⟨y,2,none⟩) hB _).setCell (p:=⟨y,3,none⟩) hB _).setCell (p:=⟨y,4,none⟩) hB _).setCell (p:=⟨y,5,none⟩) hB _)
set_option maxRecDepth 100000 in
set_option maxHeartbeats 4000000 in
theorem wbegin_any (bw b1 n:Nat) (id Ba:Int) (peers:List Int) (S:Nat→Prop) (pA dA:Option Addr) (pc dn dc:Nat) (L Mo Bt t v cm0 most ro0 le0 commit draw:Int) (a6 a7 a8 a9 a10 a11 a12 a13 sp:Value) (dl:List (LE×List Int)) (w:World)
  (hw:w.heap[bw]?=some (.cells #[.int .i64 0,.slice pA n pc,.int .i64 L,.int .i64 Mo,.int .i64 Bt,.int .i64 Ba,a6,a7,a8,a9,a10,a11,a12,a13] 43 (0,0))) (hs:w.heap[b1]?=some (.cells #[.int .i64 id,sp,.pointer none,.int .i64 t,.int .i64 v,.int .i64 0,.int .i64 0,.slice dA dn dc,.int .i64 cm0,.int .i64 most,.int .i64 ro0,.int .i64 le0] 52 (0,0))) (hS:∀ i,S i→i<w.heap.size∧i≠b1)
  (hpn:n=peers.length) (hp:RowS encI 1 w S pA peers) (hd:EntsS w S dA dl) (hdn:dn=dl.length) (hst:StOK peers t v 0 0 commit (dl.map con)) (hcfg:CfgOK id peers L Mo Bt Ba) :
  Calls Tryz.prog 23 #[.pointer (some ⟨bw,0,none⟩),.pointer (some ⟨b1,0,none⟩),.int .i64 commit,.int .i64 draw,.bool false] w fun e w'=>e=.returned (.bool true)∧∃ F bn c,NdAt w' F (fun _=>False) bn (NS.new id L Mo Bt Ba t v 0 0 commit draw) c ∧
   w'.heap[b1]?=some (.cells #[.int .i64 id,.pointer (some ⟨bn,0,none⟩),.pointer none,.int .i64 t,.int .i64 v,.int .i64 0,.int .i64 0,.slice dA dn dc,.int .i64 commit,.int .i64 most,.int .i64 1,.int .i64 0] 52 (0,0)) ∧
   Chg (·=b1) w w'∧(∀ i,F i→w.heap.size≤i)∧c.peers=peers∧c.log.map con=dl.map con∧c=NC.new c.pA c.pn c.pc c.peers c.lA c.ln c.lc c.log:=by
 have HW:=ld hw
 have HS:=ld hs
 have HP:=ld hp
 have HD:=ld hd
 have HST:=ld hst
 have HCF:=ld hcfg
 have HDN:=ld hdn
 have HSS:=ld hS
 have HPN:=ld hpn
 have hlw:=block_lt hw
 have hlb:=block_lt hs
 obtain ⟨u0,u1,u2,u3,u4,u5⟩:w.cell? ⟨bw,0,none⟩=some (.int .i64 0)∧w.cell? ⟨bw,1,none⟩=some (.slice pA n pc)∧w.cell? ⟨bw,2,none⟩=some (.int .i64 L)∧w.cell? ⟨bw,3,none⟩=some (.int .i64 Mo)∧w.cell? ⟨bw,4,none⟩=some (.int .i64 Bt)∧w.cell? ⟨bw,5,none⟩=some (.int .i64 Ba) :=
  ⟨cell_block hw 0 _ rfl,cell_block hw 1 _ rfl,cell_block hw 2 _ rfl,cell_block hw 3 _ rfl,cell_block hw 4 _ rfl,cell_block hw 5 _ rfl⟩
 have s0:w.cell? ⟨b1,0,none⟩=some (.int .i64 id):=cell_block hs 0 _ rfl
 clear hw hs hp hd hst hcfg hdn hS hpn
 go_enter Tryz.func23,Tryz.ntmps23
 go_upto_region 3 with (fail)
 have hb1:=below_alloc1 w (.cells #[.int .i64 id,.slice pA n pc,.int .i64 L,.int .i64 Mo,.int .i64 Bt,.int .i64 Ba] 27)
 have hx1:=World.alloc_at w (.cells #[.int .i64 id,.slice pA n pc,.int .i64 L,.int .i64 Mo,.int .i64 Bt,.int .i64 Ba] 27)
 have hz1:=World.alloc_size w (.cells #[.int .i64 id,.slice pA n pc,.int .i64 L,.int .i64 Mo,.int .i64 Bt,.int .i64 Ba] 27)
 obtain ⟨x,hx⟩:∃ x,x=w.heap.size:=⟨_,rfl⟩
 rw [←hx] at hx1 hz1
 rw [←hx]
 have HX:=ld hx
 clear hx
 generalize w.alloc (.cells #[.int .i64 id,.slice pA n pc,.int .i64 L,.int .i64 Mo,.int .i64 Bt,.int .i64 Ba] 27)=W1 at hb1 hx1 hz1 ⊢
 have HB1:=ld hb1
 have HX1:=ld hx1
 have HZ1:=ld hz1
 have HS1:=ld ((hb1.block b1 hlb).trans HS.out)
 clear u0 u1 u2 u3 u4 u5 s0 hlw hlb hb1 hx1 hz1
 have HL:Hid (∀ W,Below W1.heap.size W1 W→Calls Tryz.prog 46 #[.slice dA dn dc] W fun e w'=>∃ v qs,e=.returned v∧OEnts w' W.heap.size v qs∧qs.map con=dl.map con∧Below W.heap.size W w'):=ld (fun W hW=>by
  have hb:Below w.heap.size w W:=HB1.out.trans (hW.mono HB1.out.size)
  exact copyLog_any _ _ _ _ W ((HD.out.keep (fun i hi=>hb.block i (HSS.out i hi).1)).ents (fun i hi=>Nat.lt_of_lt_of_le (HSS.out i hi).1 hb.size)) HDN.out (by have:=HST.out.len;simp at this;omega))
 have HC:Hid (∀ W,Below W1.heap.size W1 W→W.cell? ⟨b1,3,none⟩=some (.int .i64 t)∧W.cell? ⟨b1,4,none⟩=some (.int .i64 v)∧W.cell? ⟨b1,5,none⟩=some (.int .i64 0)∧W.cell? ⟨b1,6,none⟩=some (.int .i64 0)∧W.cell? ⟨b1,7,none⟩=some (.slice dA dn dc)):=ld (fun W hW=>by
  have h:=(hW.block b1 (block_lt HS1.out)).trans HS1.out
  exact ⟨cell_block h 3 _ rfl,cell_block h 4 _ rfl,cell_block h 5 _ rfl,cell_block h 6 _ rfl,cell_block h 7 _ rfl⟩)
 have hlb:b1<W1.heap.size:=block_lt HS1.out
 go_cut [12] (fun u wx=>∃ y,u=.pointer (some ⟨y,0,none⟩)∧Hid (∃ A1 k1 qs,wx.heap[y]?=some (.cells #[.int .i64 t,.int .i64 v,.int .i64 0,.int .i64 0,.int .i64 commit,.slice A1 qs.length k1] 90 (0,0))∧Below W1.heap.size W1 wx∧(∃ S',EntsS wx S' A1 qs∧∀ i,S' i→i<wx.heap.size∧i≠b1)∧qs.map con=dl.map con∧W1.heap.size≤y))
 case first =>
  refine wp_region_held_drew (S:=(fun W=>W.cell? ⟨b1,3,none⟩=some (.int .i64 t)∧W.cell? ⟨b1,4,none⟩=some (.int .i64 v)∧W.cell? ⟨b1,5,none⟩=some (.int .i64 0)∧W.cell? ⟨b1,6,none⟩=some (.int .i64 0)∧W.cell? ⟨b1,7,none⟩=some (.slice dA dn dc))) (by kernel_rfl) (HC.out _ (Below.refl _ _).drew) (fun hHeld=>?_)
  refine tks 0 (.pointer (some ⟨b1,0,none⟩)) ?_
  refine tks 1 (.pointer (some ⟨b1,0,none⟩)) ?_
  refine tks 2 (.pointer (some ⟨b1,3,none⟩)) ?_
  refine tks 3 (.pointer (some ⟨b1,3,none⟩)) ?_
  refine tks 4 (.agg #[.int .i64 t,.int .i64 v]) ?_
  refine tks 5 (.pointer (some ⟨b1,0,none⟩)) ?_
  refine tks 6 (.pointer (some ⟨b1,0,none⟩)) ?_
  refine tks 7 (.pointer (some ⟨b1,3,none⟩)) ?_
  refine tks 8 (.pointer (some ⟨b1,5,none⟩)) ?_
  refine tks 9 (.int .i64 0) ?_
  refine tks 10 (.pointer (some ⟨b1,0,none⟩)) ?_
  refine tks 11 (.pointer (some ⟨b1,0,none⟩)) ?_
  refine tks 12 (.pointer (some ⟨b1,3,none⟩)) ?_
  refine tks 13 (.pointer (some ⟨b1,6,none⟩)) ?_
  refine tks 14 (.int .i64 0) ?_
  refine tks 15 (.int .i64 commit) ?_
  refine tks 16 (.pointer (some ⟨b1,0,none⟩)) ?_
  refine tks 17 (.pointer (some ⟨b1,0,none⟩)) ?_
  refine tks 18 (.pointer (some ⟨b1,3,none⟩)) ?_
  refine tks 19 (.pointer (some ⟨b1,7,none⟩)) ?_
  refine tks 20 (.slice dA dn dc) ?_
  refine wpAnyH_ready (rs:=[21,23]) (by kernel_rfl) (by simp) ?_
  refine AllReadyH.cons rfl (fun K hK=>?_) (AllReadyH.cons rfl (fun K hK=>?_) AllReadyH.nil)
  ·
   go_simp
   refine (HL.out _ (Below.refl _ _).drew).mono ?_
   rintro e w5 ⟨v1,qs,rfl,hO5,hq,hb5⟩
   obtain ⟨A1,k1,rfl⟩:=hO5.own.form
   have hb5c:=(show Below W1.heap.size W1 w5 from ⟨hb5.os,hb5.tape,hb5.output,hb5.size,hb5.block⟩)
   go_wp2_with fail
   refine hks hK ?_ fun hHeld=>?_
   ·exact HC.out _ hb5c
   clear hK K
   refine tks 22 (.agg #[.int .i64 t,.int .i64 v,.int .i64 0,.int .i64 0,.int .i64 commit,.slice A1 qs.length k1]) ?_
   refine rdy 23 fun K hK=>?_
   go_simp
   refine hks hK ?_ fun hHeld=>?_
   ·exact HC.out _ (hb5c.alloc hb5c.size _)
   clear hK K
   have hES:EntsS (w5.alloc (.cells #[.int .i64 0,.int .i64 0,.int .i64 0,.int .i64 0,.int .i64 0,.slice none 0 0] 90)) (fun i=>W1.drew.heap.size≤i∧i<w5.heap.size) A1 qs:=hO5.entsS.1.keep (fun i hi=>Below.heap_alloc _ _ _ hi.2)
   have hy7:=World.alloc_at w5 (.cells #[.int .i64 0,.int .i64 0,.int .i64 0,.int .i64 0,.int .i64 0,.slice none 0 0] 90)
   have hb7:=hb5c.alloc hb5c.size (.cells #[.int .i64 0,.int .i64 0,.int .i64 0,.int .i64 0,.int .i64 0,.slice none 0 0] 90)
   have hz7:=World.alloc_size w5 (.cells #[.int .i64 0,.int .i64 0,.int .i64 0,.int .i64 0,.int .i64 0,.slice none 0 0] 90)
   obtain ⟨y,hy⟩:∃ y,y=w5.heap.size:=⟨_,rfl⟩
   have hy1:W1.heap.size≤y:=by rw [hy];exact hb5c.size
   rw [←hy] at hy7 hES hz7
   rw [←hy]
   clear hy
   generalize w5.alloc (.cells #[.int .i64 0,.int .i64 0,.int .i64 0,.int .i64 0,.int .i64 0,.slice none 0 0] 90)=w7 at hHeld hES hy7 hb7 hz7 ⊢
   have hSy:∀ i,(W1.drew.heap.size≤i∧i<y)→i≠y∧i<w7.heap.size:=fun i hi=>⟨Nat.ne_of_lt hi.2,by omega⟩
   have hSb:∀ i,(W1.drew.heap.size≤i∧i<y)→i≠b1:=fun i hi=>by have h:W1.heap.size≤i:=hi.1;omega
   obtain ⟨c0,c1,c2,c3,c4,c5⟩:=cells6 hy7
   have hf7:=frozen_block hy7
   have hly7:=block_lt hy7
   have st:=store6g hy7 (.int .i64 t) (.int .i64 v) (.int .i64 0) (.int .i64 0) (.int .i64 commit) (.slice A1 qs.length k1)
   have hyb:b1≠y:=by omega
   refine rdy 24 fun K hK=>?_
   go_simp
   refine hks hK ?_ fun hHeld=>?_
   ·exact ⟨(cell_heap8 (st.2.1 b1 hyb) _).trans (HC.out _ hb7).1,(cell_heap8 (st.2.1 b1 hyb) _).trans (HC.out _ hb7).2.1,(cell_heap8 (st.2.1 b1 hyb) _).trans (HC.out _ hb7).2.2.1,(cell_heap8 (st.2.1 b1 hyb) _).trans (HC.out _ hb7).2.2.2.1,(cell_heap8 (st.2.1 b1 hyb) _).trans (HC.out _ hb7).2.2.2.2⟩
   clear hK K
   refine don ?_
   go_wp2_with fail
   go_meet
   exact ⟨y,rfl,ld ⟨A1,k1,qs,st.1,st.2.2.2 _ _ hy1 hb7,⟨_,hES.keep (fun i hi=>st.2.1 i (hSy i hi).1),fun i hi=>⟨by rw [st.2.2.1];exact (hSy i hi).2,hSb i hi⟩⟩,hq,hy1⟩⟩
  ·
   go_simp
   refine hks hK ?_ fun hHeld=>?_
   ·exact HC.out _ ((Below.refl _ _).alloc (Nat.le_refl _) _).drew
   clear hK K
   have hy4:(W1.alloc (.cells #[.int .i64 0,.int .i64 0,.int .i64 0,.int .i64 0,.int .i64 0,.slice none 0 0] 90)).drew.heap[W1.heap.size]?=_:=World.alloc_at W1 (.cells #[.int .i64 0,.int .i64 0,.int .i64 0,.int .i64 0,.int .i64 0,.slice none 0 0] 90)
   have hb4:Below W1.heap.size W1 (W1.alloc (.cells #[.int .i64 0,.int .i64 0,.int .i64 0,.int .i64 0,.int .i64 0,.slice none 0 0] 90)).drew:=((Below.refl _ _).alloc (Nat.le_refl _) _).drew
   have hz4:(W1.alloc (.cells #[.int .i64 0,.int .i64 0,.int .i64 0,.int .i64 0,.int .i64 0,.slice none 0 0] 90)).drew.heap.size=W1.heap.size+1:=World.alloc_size W1 _
   obtain ⟨y,hy⟩:∃ y,y=W1.heap.size:=⟨_,rfl⟩
   have hy1:W1.heap.size≤y:=Nat.le_of_eq hy.symm
   try rw [HZ1.out] at hHeld
   rw [←hy] at hy4 hz4
   rw [←hy]
   clear hy
   generalize (W1.alloc (.cells #[.int .i64 0,.int .i64 0,.int .i64 0,.int .i64 0,.int .i64 0,.slice none 0 0] 90)).drew=w4 at hHeld hy4 hb4 hz4 ⊢
   refine rdy 21 fun K hK=>?_
   go_simp
   refine (HL.out _ hb4).mono ?_
   rintro e w7 ⟨v1,qs,rfl,hO5,hq,hb5⟩
   obtain ⟨A1,k1,rfl⟩:=hO5.own.form
   have hb7:=hb4.trans (hb5.mono hb4.size)
   go_wp2_with fail
   refine hks hK ?_ fun hHeld=>?_
   ·exact HC.out _ hb7
   clear hK K
   refine tks 22 (.agg #[.int .i64 t,.int .i64 v,.int .i64 0,.int .i64 0,.int .i64 commit,.slice A1 qs.length k1]) ?_
   have hES:=hO5.entsS.1
   have hy7:=(hb5.block y (block_lt hy4)).trans hy4
   have hSy:∀ i,(w4.heap.size≤i∧i<w7.heap.size)→i≠y∧i<w7.heap.size:=fun i hi=>⟨by omega,hi.2⟩
   have hSb:∀ i,(w4.heap.size≤i∧i<w7.heap.size)→i≠b1:=fun i hi=>by have:=hb4.size;omega
   obtain ⟨c0,c1,c2,c3,c4,c5⟩:=cells6 hy7
   have hf7:=frozen_block hy7
   have hly7:=block_lt hy7
   have st:=store6g hy7 (.int .i64 t) (.int .i64 v) (.int .i64 0) (.int .i64 0) (.int .i64 commit) (.slice A1 qs.length k1)
   have hyb:b1≠y:=by omega
   refine rdy 24 fun K hK=>?_
   go_simp
   refine hks hK ?_ fun hHeld=>?_
   ·exact ⟨(cell_heap8 (st.2.1 b1 hyb) _).trans (HC.out _ hb7).1,(cell_heap8 (st.2.1 b1 hyb) _).trans (HC.out _ hb7).2.1,(cell_heap8 (st.2.1 b1 hyb) _).trans (HC.out _ hb7).2.2.1,(cell_heap8 (st.2.1 b1 hyb) _).trans (HC.out _ hb7).2.2.2.1,(cell_heap8 (st.2.1 b1 hyb) _).trans (HC.out _ hb7).2.2.2.2⟩
   clear hK K
   refine don ?_
   go_wp2_with fail
   go_meet
   exact ⟨y,rfl,ld ⟨A1,k1,qs,st.1,st.2.2.2 _ _ hy1 hb7,⟨_,hES.keep (fun i hi=>st.2.1 i (hSy i hi).1),fun i hi=>⟨by rw [st.2.2.1];exact (hSy i hi).2,hSb i hi⟩⟩,hq,hy1⟩⟩
 case rest =>
  obtain ⟨y,rfl,hR⟩:=hcut
  obtain ⟨A1,k1,qs,hy,hb,⟨S',hE,hE'⟩,hq,hy1⟩:=hR.out
  have hS2:=(hb.block b1 (block_lt HS1.out)).trans HS1.out
  have hx2:=(hb.block x (block_lt HX1.out)).trans HX1.out
  have HY:=ld hy
  have HB:=ld hb
  have HE:=ld hE
  have HE2:=ld hE'
  have HQ:=ld hq
  have HS2:=ld hS2
  have HX2:=ld hx2
  obtain ⟨x0,x1,x2,x3,x4,x5⟩:=cells6 hx2
  obtain ⟨y0,y1,y2,y3,y4,y5⟩:=cells6 hy
  have d8:wc.cell? ⟨b1,8,none⟩=some (.int .i64 cm0):=cell_block hS2 8 _ rfl
  have d10:wc.cell? ⟨b1,10,none⟩=some (.int .i64 ro0):=cell_block hS2 10 _ rfl
  have d11:wc.cell? ⟨b1,11,none⟩=some (.int .i64 le0):=cell_block hS2 11 _ rfl
  have hfb:=frozen_block hS2
  have hlb:b1<wc.heap.size:=block_lt hS2
  have hlx:x<wc.heap.size:=block_lt hx2
  have hly:y<wc.heap.size:=block_lt hy
  clear hR hy hb hE hE' hq hS2 hx2
  go_wp2_with (fail)
  have hot:∀ i,i≠b1→(((wc.setCell ⟨b1,8,none⟩ (.int .i64 commit)).setCell ⟨b1,10,none⟩ (.int .i64 1)).setCell ⟨b1,11,none⟩ (.int .i64 0)).heap[i]?=wc.heap[i]?:=fun i hi=>by rw [Below.heap_setCell _ _ _ _ hi,Below.heap_setCell _ _ _ _ hi,Below.heap_setCell _ _ _ _ hi]
  have hsz:(((wc.setCell ⟨b1,8,none⟩ (.int .i64 commit)).setCell ⟨b1,10,none⟩ (.int .i64 1)).setCell ⟨b1,11,none⟩ (.int .i64 0)).heap.size=wc.heap.size:=by simp only [World.setCell,Array.size_modify]
  have hS3:=block_setCell (o:=11) (block_setCell (o:=10) (block_setCell (o:=8) HS2.out (.int .i64 commit)) (.int .i64 1)) (.int .i64 0)
  have hbw:Below w.heap.size w wc:=HB1.out.trans (HB.out.mono HB1.out.size)
  have hC3:=chg1 (o:=11) (chg1 (o:=10) (chg1 (o:=8) (Chg.ofBelow (F:=fun i=>i=b1) hbw) (.int .i64 commit)) (.int .i64 1)) (.int .i64 0)
  have hP3:=((HP.out.keep (fun i hi=>(hot i (HSS.out i hi).2).trans (hbw.block i (HSS.out i hi).1))).row (B:=wc.heap.size) (fun i hi=>Nat.lt_of_lt_of_le (HSS.out i hi).1 hbw.size))
  have hE3:=(HE.out.keep (fun i hi=>hot i (HE2.out i hi).2)).ents (B:=wc.heap.size) (fun i hi=>(HE2.out i hi).1)
  rw [←hsz] at hP3 hE3
  clear x0 x1 x2 x3 x4 x5 y0 y1 y2 y3 y4 y5 d8 d10 d11 hfb hlb hlx hly hot hsz hbw
  generalize ((wc.setCell ⟨b1,8,none⟩ (.int .i64 commit)).setCell ⟨b1,10,none⟩ (.int .i64 1)).setCell ⟨b1,11,none⟩ (.int .i64 0)=W3 at hS3 hC3 hP3 hE3 ⊢
  have HS3:=ld hS3
  have HC3:=ld hC3
  have HP3:=ld hP3
  have HE3:=ld hE3
  clear hS3 hC3 hP3 hE3
  refine (new_yes id pA n pc peers L Mo Bt Ba t v 0 0 commit A1 qs.length k1 qs draw W3 HP3.out HPN.out HCF.out HE3.out rfl (by rw [HQ.out];exact HST.out)).mono ?_
  rintro e W4 ⟨F,g,c,rfl,hN,hb4,hF,hcp,hcl,hcn⟩
  have hS4:=(hb4.block b1 (block_lt HS3.out)).trans HS3.out
  have hgb:g≠b1:=fun e=>absurd (ne_typed hN.blk (by rw [e];exact hS4)) (by decide)
  have HN:=ld hN
  have HF:=ld hF
  have HB4:=ld hb4
  have HS4:=ld hS4
  have HCP:=ld hcp
  have HCL:=ld hcl
  have HCN:=ld hcn
  have HGB:=ld hgb
  have d1:W4.cell? ⟨b1,1,none⟩=some sp:=cell_block hS4 1 _ rfl
  have hfb:=frozen_block hS4
  have hlb:b1<W4.heap.size:=block_lt hS4
  clear hN hF hb4 hS4 hcp hcl hcn hgb
  go_wp2_with (fail)
  refine (num_any 0 _).mono ?_
  rintro e w5 ⟨rfl,rfl⟩
  go_wp2
  go_ret
  have hl3:=block_lt HS3.out
  have hz3:=HC3.out.size
  refine ⟨rfl,F,g,c,HN.out.keep (Nat.le_of_eq (by simp only [World.setCell,Array.size_modify])) (fun i hi hl=>Below.heap_setCell _ _ _ _ (fun e=>?_)),?_,chg1 (HC3.out.below HB4.out) _,fun i hi=>Nat.le_trans hz3 (HF.out i hi),HCP.out,HCL.out.trans HQ.out,HCN.out⟩
  ·rcases hi with hi | hi
   ·have:=HF.out i hi
    simp only at e
    omega
   ·exact hi
  ·rw [block_setCell HS4.out];simp
section
variable {w w':World} {S:Nat→Prop} {B bw b i:Nat} {bs:List Nat} {g:VG} {sg:Nat→SG} {net:List (MR×List (LE×List Int))} {Fs:Nat→Nat→Prop} {h:Nat} {cf:Rf.Cfg} {K K':Nat} {ws:Rf.Wd} {gh gh':Rf.Gh} {calm:Bool} {ss:Option Addr×Nat}
theorem cfg_ok (hc:Rf.CfgOK cf) (hi:i<cf.n):CfgOK ((i+1:Nat):Int) (ints (List.range' 1 cf.n)) cf.least cf.most cf.beat cf.batch:=by
 have h1:=hc.n
 have h2:=hc.least
 have h3:=hc.most
 have h4:=hc.beat
 have h5:=hc.batch
 refine ⟨by simp [ints];omega,fun p hp=>?_,?_,?_,by omega,by omega,by omega,by omega,by omega,by omega⟩
 ·obtain ⟨k,hk,rfl⟩:=ints_mem hp
  have:=List.mem_range'_1.1 hk
  omega
 ·unfold ints
  rw [List.pairwise_map]
  exact (List.pairwise_lt_range' (s:=1) (n:=cf.n) (step:=1) (by omega)).imp fun h=>by omega
 ·exact List.mem_map.2 ⟨i+1,List.mem_range'_1.2 (by omega),rfl⟩
theorem log_ok {l:List Rf.Ent} {T:Nat} (hA:Rf.Agree gh l) (hT:∀ t k,Rf.tmL (gh.llog t) k≤t) (hl:∀ k,Rf.tmL l k≤T) (hn:l.length≤65536):LogOK (numb 0 l) 0 0 T:=by
 intro k e hk
 rw [numb0_get] at hk
 obtain ⟨y,hy,rfl⟩:=Option.map_eq_some_iff.1 hk
 have hkl:k<l.length:=(List.getElem?_eq_some_iff.1 hy).1
 have e1:Rf.tmL l (k+1)=y.term:=by unfold Rf.tmL;rw [if_neg (by omega),Nat.add_sub_cancel,hy];rfl
 have h1:=hA.pos (k:=k+1) (by omega) (by omega)
 have h2:=hl (k+1)
 rw [e1] at h1 h2
 refine ⟨by simp only;omega,by simp only;omega,by simp only;omega,?_,by simp only;omega⟩
 unfold prevT
 split
 ·simp only;omega
 ·rename_i h0
  have h3:=hA.mono hT (j:=k) (k:=k+1) (by omega) (by omega)
  rw [numb0_get]
  have hk1:k-1<l.length:=by omega
  rw [List.getElem?_eq_getElem hk1]
  have e2:Rf.tmL l k=l[k-1].term:=by unfold Rf.tmL;rw [if_neg h0,List.getElem?_eq_getElem hk1];rfl
  simp only [Option.map_some,Option.getD_some]
  omega
theorem new_idle {F:Nat→Prop} {bn:Nat} {c:NC} {id t v k:Nat} {draw:Int} {l:List Rf.Ent} (hc:Rf.CfgOK cf) (hN:NdAt w F (fun _=>False) bn (NS.new id cf.least cf.most cf.beat cf.batch t v 0 0 k draw) c) (hp:c.peers=ints (List.range' 1 cf.n)) (hl:c.log.map con=numb 0 l) (hn:c=NC.new c.pA c.pn c.pc c.peers c.lA c.ln c.lc c.log):IdleAt w F bn cf (Rf.fresh cf draw id t v l k):=by
 refine ⟨_,c,hN,⟨rfl,⟨rfl,rfl,rfl,rfl⟩,⟨rfl,rfl⟩,⟨rfl,rfl,rfl⟩,rfl,⟨rfl,rfl⟩,⟨rfl,?_,rfl⟩,rfl,hp,hl,fun h=>absurd (show (1:Nat)=4 from h) (by decide),fun h=>absurd (show (1:Nat)=2∨(1:Nat)=3 from h) (by decide),fun h=>absurd (show (1:Nat)=3 from h) (by decide),by rw [hn];rfl⟩,by rw [hn];rfl,by rw [hn];rfl,by rw [hn];rfl,by rw [hn];rfl⟩
 show (cf.least:Int)+draw % ((cf.most:Int)-cf.least+1)=((Rf.rnd cf draw:Nat):Int)
 have hm:=hc.most
 have:=Int.emod_nonneg draw (b:=(cf.most:Int)-cf.least+1) (by omega)
 unfold Rf.rnd
 omega
end
section
variable {w w':World} {S:Nat→Prop} {B bw b i:Nat} {bs:List Nat} {g:VG} {sg:Nat→SG} {net:List (MR×List (LE×List Int))} {Fs:Nat→Nat→Prop} {h:Nat} {cf:Rf.Cfg} {K K':Nat} {ws:Rf.Wd} {gh gh':Rf.Gh} {calm:Bool} {ss:Option Addr×Nat}
def nth (cf:Rf.Cfg) (n:Int):Nat:=(wholeV n 0 ((cf.n:Int)-1)).toNat
theorem nth_lt (hc:Rf.CfgOK cf) (n:Int):nth cf n<cf.n∧wholeV n 0 ((cf.n:Int)-1)=(nth cf n:Nat):=by
 have:=hc.n
 have h:=wholeV_in n (lo:=0) (hi:=(cf.n:Int)-1) (by omega)
 unfold nth
 omega
set_option maxRecDepth 100000 in
set_option maxHeartbeats 1000000 in
theorem seat_any (hC:CW w S B bw bs g sg net Fs h cf K ws gh) (n:Int) :
  Calls Tryz.prog 14 #[.pointer (some ⟨bw,0,none⟩),.int .i64 n] w fun e w'=>∃ b,e=.returned (.pointer (some ⟨b,0,none⟩))∧Hid (bs[nth cf n]?=some b)∧∃ k,w'=w.drewN k:=by
 obtain ⟨sb,so,hsA,hsS,_⟩:=hC.seats
 have hn:=nth_lt hC.cok n
 have hn5:=hC.cok.n
 obtain ⟨b,hb,_,_⟩:=hC.sat hn.1
 have HB:=ld hb
 have c6:=vw6 hC.at_.wb
 rw [hsA,hC.cfg.1] at c6
 have cp:=hC.ptr hsA hb
 have hlw:=block_lt hC.at_.wb
 have hls:=hC.at_.bd _ hsS
 obtain ⟨k,hk⟩:∃ k,k=nth cf n:=⟨_,rfl⟩
 rw [←hk] at hn cp
 have HW:Hid (∀ m,Calls Tryz.prog 24 #[.int .i64 n,.int .i64 0,.int .i64 ((cf.n:Int)-1)] (w.drewN m) fun e w'=>e=.returned (.int .i64 (k:Int))∧w'=w.drewN m):=ld fun m=>by
  have:=whole_any n 0 ((cf.n:Int)-1) (w.drewN m) (by decide) (by omega) (by omega)
  rw [hn.2] at this
  exact this
 have w1:IntKind.i64.wrap ((cf.n:Int)-1)=(cf.n:Int)-1:=IntWalk.i64_in _ (by omega)
 have hkl:k<cf.n:=hn.1
 have hkl':(k:Int)<(cf.n:Int):=by omega
 have hk0:(0:Int)≤(k:Int):=by omega
 clear hC hsA hsS hn hb hk
 go_enter Tryz.func14,Tryz.ntmps14
 go_upto_region 1 with (fail)
 go_quiet (first | (go_at_call 24;refine Calls.quiet_of_same (HW.out _)))
 go_wp2_with (fail)
 go_ret
 exact ⟨b,rfl,HB,_,rfl⟩
end
end Go.Proofs.YtocogcgnahbpkaaGreat
