import Derived.Test.YtocogcgnahbpkaaGreatC12
import Derived.Test.YtocogcgnahbpkaaGreatC43
namespace Go.Proofs.YtocogcgnahbpkaaGreat
open Go.RowKit
set_option maxRecDepth 100000 in
set_option maxHeartbeats 4000000 in
theorem config_any (nd a b c d:Int) (w:World) :
  Calls Tryz.prog 9 #[.int .i64 nd,.int .i64 a,.int .i64 b,.int .i64 c,.int .i64 d] w fun e w'=>∃ (cf:Rf.Cfg) (A:Option Addr) (cp:Nat),e=.returned (.agg #[.int .i64 0,.slice A cf.n cp,.int .i64 (cf.least:Int),.int .i64 (cf.most:Int),.int .i64 (cf.beat:Int),.int .i64 (cf.batch:Int)])∧Own encI 1 3 w' w.heap.size (.slice A cf.n cp) (ints (List.range' 1 cf.n))∧Below w.heap.size w w'∧Rf.CfgOK cf∧(cf.most:Int)≤27:=by
 have hq:=wholeV_in d (lo:=1) (hi:=16) (by decide)
 obtain ⟨Q,hQ⟩:∃ Q,wholeV d 1 16=Q:=⟨_,rfl⟩
 rw [hQ] at hq
 have HQ:=ld hQ
 have hn:=wholeV_in nd (lo:=1) (hi:=5) (by decide)
 obtain ⟨n,hN5⟩:∃ n:Nat,wholeV nd 1 5=(n:Int):=⟨(wholeV nd 1 5).toNat,by omega⟩
 rw [hN5] at hn
 have HN5:=ld hN5
 have hn5:1≤n∧n≤5:=by omega
 clear hQ hN5 hn
 go_enter Tryz.func9,Tryz.ntmps9
 go_wp2_with (fail)
 refine (whole_any a 2 12 _ (by decide) (by decide) (by decide)).mono ?_
 rintro e w1 ⟨rfl,rfl⟩
 have hL:=wholeV_in a (lo:=2) (hi:=12) (by decide)
 generalize wholeV a 2 12=L at hL ⊢
 go_upto_region 2 with (fail)
 have hb1:Below w.heap.size w ((w.alloc (.cells #[.int .i64 0,.slice none 0 0,.int .i64 0,.int .i64 0,.int .i64 0,.int .i64 0] 27)).alloc (.cells #[.int .i64 0,.slice none 0 0,.int .i64 L,.int .i64 0,.int .i64 0,.int .i64 0] 27)):=(below_alloc1 w _).alloc (le_alloc (Nat.le_refl _) _) _
 have hg1:((w.alloc (.cells #[.int .i64 0,.slice none 0 0,.int .i64 0,.int .i64 0,.int .i64 0,.int .i64 0] 27)).alloc (.cells #[.int .i64 0,.slice none 0 0,.int .i64 L,.int .i64 0,.int .i64 0,.int .i64 0] 27)).heap[w.heap.size]?=some (.cells #[.int .i64 0,.slice none 0 0,.int .i64 0,.int .i64 0,.int .i64 0,.int .i64 0] 27 (0,0)):=block_alloc (World.alloc_at w _) _
 have hh1:((w.alloc (.cells #[.int .i64 0,.slice none 0 0,.int .i64 0,.int .i64 0,.int .i64 0,.int .i64 0] 27)).alloc (.cells #[.int .i64 0,.slice none 0 0,.int .i64 L,.int .i64 0,.int .i64 0,.int .i64 0] 27)).heap[w.heap.size+1]?=some (.cells #[.int .i64 0,.slice none 0 0,.int .i64 L,.int .i64 0,.int .i64 0,.int .i64 0] 27 (0,0)):=by
  have:=World.alloc_at (w.alloc (.cells #[.int .i64 0,.slice none 0 0,.int .i64 0,.int .i64 0,.int .i64 0,.int .i64 0] 27)) (.cells #[.int .i64 0,.slice none 0 0,.int .i64 L,.int .i64 0,.int .i64 0,.int .i64 0] 27)
  rwa [World.alloc_size] at this
 obtain ⟨g,hg⟩:∃ g,g=w.heap.size:=⟨_,rfl⟩
 rw [←hg] at hg1 hh1
 rw [←hg]
 have HG:=ld hg
 clear hg
 generalize (w.alloc (.cells #[.int .i64 0,.slice none 0 0,.int .i64 0,.int .i64 0,.int .i64 0,.int .i64 0] 27)).alloc (.cells #[.int .i64 0,.slice none 0 0,.int .i64 L,.int .i64 0,.int .i64 0,.int .i64 0] 27)=W1 at hb1 hg1 hh1 ⊢
 have HB1:=ld hb1
 have HG1:=ld hg1
 have HH1:=ld hh1
 have hM:=wholeV_in b (lo:=3) (hi:=15) (by decide)
 obtain ⟨M,hMM⟩:∃ M,wholeV b 3 15=M:=⟨_,rfl⟩
 rw [hMM] at hM
 have HM:=ld hMM
 have d2:W1.cell? ⟨g+1,2,none⟩=some (.int .i64 L):=cell_block hh1 2 _ rfl
 have d3:W1.cell? ⟨g+1,3,none⟩=some (.int .i64 0):=cell_block hh1 3 _ rfl
 have hf:=frozen_block hh1
 have hlh:=block_lt hh1
 have w1:IntKind.i64.wrap (L+M)=L+M:=IntWalk.i64_in _ (by omega)
 have hk3:(W1.setCell ⟨g+1,3,none⟩ (.int .i64 (L+M))).drew.cell? ⟨g+1,2,none⟩=some (.int .i64 L):=cell_block (block_setCell hh1 _) 2 _ rfl
 clear hb1 hg1 hh1 hMM
 have HWC:=ld (whole_any b 3 15 W1.drew (by decide) (by decide) (by decide))
 go_region_held3 (fun W=>W.cell? ⟨g+1,2,none⟩=some (.int .i64 L)) (first | exact hk3 | go_keep)
  (first | (go_at_call 24;refine HWC.out.mono ?_;rintro e w2 ⟨rfl,rfl⟩;rw [HM.out]))
 have HH2:=ld (show (W1.setCell ⟨g+1,3,none⟩ (.int .i64 (L+M))).drew.heap[g+1]?=_ from block_setCell HH1.out (.int .i64 (L+M)))
 have HB2:=ld ((HB1.out.setCell (p:=⟨g+1,3,none⟩) (by have:=HG.out;show w.heap.size≤g+1;omega) (.int .i64 (L+M))).drew)
 have HG2:=ld (show (W1.setCell ⟨g+1,3,none⟩ (.int .i64 (L+M))).drew.heap[g]?=_ from (Below.heap_setCell _ _ _ _ (fun e=>by simp only at e;omega)).trans HG1.out)
 clear hk3 w1 d2 d3 hf hlh HB1 HH1 HG1 HWC
 generalize (W1.setCell ⟨g+1,3,none⟩ (.int .i64 (L+M))).drew=W2 at HH2 HB2 HG2 ⊢
 have d2:W2.cell? ⟨g+1,2,none⟩=some (.int .i64 L):=cell_block HH2.out 2 _ rfl
 have d4:W2.cell? ⟨g+1,4,none⟩=some (.int .i64 0):=cell_block HH2.out 4 _ rfl
 have hf:=frozen_block HH2.out
 have hlh:=block_lt HH2.out
 have w1:IntKind.i64.wrap (L-1)=L-1:=IntWalk.i64_in _ (by omega)
 have hN:=wholeV_in c (lo:=1) (hi:=L-1) (by omega)
 obtain ⟨N,hNN⟩:∃ N,wholeV c 1 (L-1)=N:=⟨_,rfl⟩
 rw [hNN] at hN
 have HWC:=ld (whole_any c 1 (L-1) W2 (by decide) (by omega) (by omega))
 rw [hNN] at HWC
 go_wp2_with (fail)
 refine HWC.out.mono ?_
 rintro e w2 ⟨rfl,rfl⟩
 go_wp2_with (fail)
 have HH3:=ld (block_setCell (o:=4) HH2.out (.int .i64 N))
 have HB3:=ld (HB2.out.setCell (p:=⟨g+1,4,none⟩) (by have:=HG.out;show w.heap.size≤g+1;omega) (.int .i64 N))
 have HG3:=ld ((show (w2.setCell ⟨g+1,4,none⟩ (.int .i64 N)).heap[g]?=_ from Below.heap_setCell _ _ _ _ (fun e=>by simp only at e;omega)).trans HG2.out)
 clear d2 d4 hf hlh w1 HWC HH2 HB2 HG2
 generalize w2.setCell ⟨g+1,4,none⟩ (.int .i64 N)=W3 at HH3 HB3 HG3 ⊢
 refine (whole_any d 1 16 W3 (by decide) (by decide) (by decide)).mono ?_
 rintro e w3 ⟨rfl,rfl⟩
 rw [HQ.out]
 have d5:w3.cell? ⟨g+1,5,none⟩=some (.int .i64 0):=cell_block HH3.out 5 _ rfl
 have hf:=frozen_block HH3.out
 have hlh:=block_lt HH3.out
 go_wp2_with (fail)
 have HH4:=ld (show (w3.setCell ⟨g+1,5,none⟩ (.int .i64 Q)).heap[g+1]?=some (.cells #[.int .i64 0,.slice none 0 0,.int .i64 L,.int .i64 (L+M),.int .i64 N,.int .i64 Q] 27 (0,0)) by rw [block_setCell (o:=5) HH3.out (.int .i64 Q)];rfl)
 have HB4:=ld (HB3.out.setCell (p:=⟨g+1,5,none⟩) (by have:=HG.out;show w.heap.size≤g+1;omega) (.int .i64 Q))
 have HG4:=ld ((show (w3.setCell ⟨g+1,5,none⟩ (.int .i64 Q)).heap[g]?=_ from Below.heap_setCell _ _ _ _ (fun e=>by simp only at e;omega)).trans HG3.out)
 clear d5 hf hlh HH3 HB3 HG3
 generalize w3.setCell ⟨g+1,5,none⟩ (.int .i64 Q)=W4 at HH4 HB4 HG4 ⊢
 go_loopw [12] (fun i wr=>∃ k:Nat,i=.int .i64 ((k:Int)+1)∧k≤n∧∃ A cp,Own encI 1 3 wr w.heap.size (.slice A k cp) (ints (List.range' 1 k))∧wr.heap[g+1]?=some (.cells #[.int .i64 0,.slice A k cp,.int .i64 L,.int .i64 (L+M),.int .i64 N,.int .i64 Q] 27 (0,0))∧wr.heap[g]?=W4.heap[g]?∧Below w.heap.size w wr) (fun i _=>(7-intOf i).toNat)
 case atStart=>exact ⟨0,rfl,Nat.zero_le _,none,0,Own.nil,HH4.out,rfl,HB4.out⟩
 case round =>
  obtain ⟨k,rfl,hkn,A,cp,hown,hH,hG,hB⟩:=hrel
  have hgw:w.heap.size≤g:=by have:=HG.out;omega
  have hBW:=hB.size
  have HHk:=ld hH
  have HOk:=ld hown
  have HBk:=ld hB
  have HGk:=ld hG
  by_cases hlt:k<n
  ·have hlt':(k:Int)+1≤(n:Int):=by omega
   have d1:wr.cell? ⟨g+1,1,none⟩=some (.slice A k cp):=cell_block hH 1 _ rfl
   have hlh:=block_lt hH
   have hcap:k≤4:=by omega
   clear hB hown hH hG
   go_wp2_with (fail)
   refine (whole_any nd 1 5 wr (by decide) (by decide) (by decide)).mono ?_
   rintro e w5 ⟨rfl,rfl⟩
   rw [HN5.out]
   have hrow:Row encI 1 (w5.alloc (.cells #[.int .i64 ((k:Int)+1)] 3)) (w5.heap.size+1) (some ⟨w5.heap.size,0,none⟩) [(k:Int)+1]:=.inr ⟨_,_,rfl,Nat.lt_succ_self _,fun k' y hk j v hv=>by
    have hk0:k'=0:=by have:=(List.getElem?_eq_some_iff.1 hk).1;simp at this;exact this
    subst hk0
    simp at hk;subst hk
    match j,hv with
    | 0,hv=>simp [encI] at hv;subst hv;simp⟩
   have hll:(ints (List.range' 1 k)).length=k:=by simp [ints]
   go_wp2_with (at_builtin;refine wp_app _ encI 1 rfl _ _ 25 rfl w.heap.size 3 8 Tryz.underlying25 info3 (by omega) len_I one_I (.slice A k cp) (ints (List.range' 1 k)) rfl (HOk.out.alloc _) _ _ 1 1 [(k:Int)+1] rfl rfl hrow (by simp [hll];omega) (by simp [hll];omega) (by simp;omega) ?_;intro v6 w6 hown6 hg6 hat6 _;rw [show ints (List.range' 1 k)++[(k:Int)+1]=ints (List.range' 1 (k+1)) from (by simp [ints,List.range'_concat];omega)] at hown6;have hne6:∀ j,(Value.slice A k cp).ownBlock=some j→j≠g+1∧j≠g:=(fun j hj=>by obtain ⟨cur,hc⟩:=HOk.out.typed j hj;exact ⟨fun e=>absurd (ne_typed (e▸hc) HHk.out) (by decide),fun e=>absurd (ne_typed (e▸hc) (HGk.out.trans HG4.out)) (by decide)⟩);have hh6:=(hg6.block (g+1) (by simp;omega) (fun e=>(hne6 _ e.symm).1 rfl)).trans (block_alloc HHk.out _);have d16:w6.cell? ⟨g+1,1,none⟩=some (.slice A k cp):=cell_block hh6 1 _ rfl;have hf6:=frozen_block hh6;have hlh6:=block_lt hh6;obtain ⟨A6,c6,rfl⟩:=hown6.form)
   go_roundw
   case rel =>
    have hgl:g<w5.heap.size:=by omega
    have hl6:(ints (List.range' 1 (k+1))).length=k+1:=by simp [ints]
    rw [hl6] at hown6
    rw [hl6]
    refine ⟨k+1,by go_num,by omega,A6,c6,?_,?_,?_,?_⟩
    ·exact hown6.same fun j hj=>Below.heap_setCell _ _ _ _ (fun e=>by
      obtain ⟨cur,hc⟩:=hown6.typed j hj
      simp only at e
      rw [e] at hc
      exact absurd (ne_typed hc hh6) (by decide))
    ·rw [block_setCell hh6];rfl
    ·exact (Below.heap_setCell _ _ _ _ (fun e=>by simp only at e;omega)).trans ((hg6.block g (by simp;omega) (fun e=>(hne6 _ e.symm).2 rfl)).trans ((Below.heap_alloc _ _ _ hgl).trans HGk.out))
    ·exact ((HBk.out.alloc hBW _).grown hg6 (le_alloc hBW _) (fun j hj=>(HOk.out.lt j hj).1)).setCell (p:=⟨g+1,1,none⟩) (by show w.heap.size≤g+1;omega) _
   case measure=>first | (simp [intOf];done) | (simp [intOf];omega)
  ·have hkk:k=n:=by omega
   subst hkk
   have hlt':¬ ((k:Int)+1≤(k:Int)):=by omega
   obtain ⟨e0,e1,e2,e3,e4,e5⟩:=cells6 hH
   have hG':=hG.trans HG4.out
   obtain ⟨z0,z1,z2,z3,z4,z5⟩:=cells6 hG'
   have hfg:=frozen_block hG'
   have hlg:=block_lt hG'
   have hlh:=block_lt hH
   have HH:=ld hH
   have HGG:=ld hG'
   clear hH hG hG' hB hown
   go_wp2_with (fail)
   refine (whole_any nd 1 5 wr (by decide) (by decide) (by decide)).mono ?_
   rintro e w5 ⟨rfl,rfl⟩
   rw [HN5.out]
   go_wp2_with (fail)
   obtain ⟨hgf,hot,hsz,hbb⟩:=store6g HGG.out (.int .i64 0) (.slice A k cp) (.int .i64 L) (.int .i64 (L+M)) (.int .i64 N) (.int .i64 Q)
   have hB6:=hbb w.heap.size w hgw HBk.out
   have hown':=HOk.out.same (w':=(((((w5.setCell ⟨g,0,none⟩ (.int .i64 0)).setCell ⟨g,1,none⟩ (.slice A k cp)).setCell ⟨g,2,none⟩ (.int .i64 L)).setCell ⟨g,3,none⟩ (.int .i64 (L+M))).setCell ⟨g,4,none⟩ (.int .i64 N)).setCell ⟨g,5,none⟩ (.int .i64 Q)) (fun k hk=>hot k (fun e=>by
    obtain ⟨cur,hc⟩:=HOk.out.typed k hk
    rw [e] at hc
    exact absurd (ne_typed hc HGG.out) (by decide)))
   try simp only [Exit.inBlock,Exit.then]
   refine bodyPost_ret (v:=.agg #[.int .i64 0,.slice A k cp,.int .i64 L,.int .i64 (L+M),.int .i64 N,.int .i64 Q]) ?_ rfl ?_
   ·exact results_cell_row rfl _ _ g 27 _ (0,0) _ rfl hgf Tryz.underlying27 rfl (by kernel_rfl)
   ·refine ⟨⟨k,L.toNat,(L+M).toNat,N.toNat,Q.toNat⟩,A,cp,?_,hown',hB6,⟨hn5,?_,?_,?_,?_⟩,?_⟩
    ·have e1:((L.toNat:Nat):Int)=L:=Int.toNat_of_nonneg (by omega)
     have e2:(((L+M).toNat:Nat):Int)=L+M:=Int.toNat_of_nonneg (by omega)
     have e3:((N.toNat:Nat):Int)=N:=Int.toNat_of_nonneg (by omega)
     have e4:((Q.toNat:Nat):Int)=Q:=Int.toNat_of_nonneg (by omega)
     simp only [e1,e2,e3,e4]
    all_goals (simp only;omega)
theorem info35v:∃ i z,Tryz.prog.info? 35=some i∧i.zero=some z∧i.size=1∧i.bytes=8∧z.cells.size=1:=by
 have h:(Tryz.prog.info? 35).map (fun i=>(i.zero,i.size,i.bytes))=some (some (.pointer none),1,8):=by kernel_rfl
 obtain ⟨i,hi,h0,h1,h2⟩:=info_parts h
 exact ⟨i,_,hi,h0,h1,h2,rfl⟩
theorem len_Pt (x:Nat):(encPt x).length=1:=rfl
theorem one_Pt (x:Nat):∀ u∈encPt x,u.oneCell'=true:=by
 intro u hu
 simp only [encPt,List.mem_cons,List.not_mem_nil,or_false] at hu
 rcases hu with rfl
 rfl
def wnew (x:Nat) (cf:Rf.Cfg) (A:Option Addr) (cp:Nat) (s:Value):Array Value:=#[.int .i64 0,.slice A cf.n cp,.int .i64 (cf.least:Int),.int .i64 (cf.most:Int),.int .i64 (cf.beat:Int),.int .i64 (cf.batch:Int),s,.slice none 0 0,.map (some (x+1)),.map (some (x+1+1)),.map (some (x+1+1+1)),.map (some (x+1+1+1+1)),.int .i64 0,.bool false]
def snew (i:Int) (bn:Nat):Array Value:=#[.int .i64 i,.pointer (some ⟨bn,0,none⟩),.pointer none,.int .i64 0,.int .i64 0,.int .i64 0,.int .i64 0,.slice none 0 0,.int .i64 0,.int .i64 0,.int .i64 1,.int .i64 0]
structure Wnew (w wr:World) (bw x:Nat) (cf:Rf.Cfg) (A:Option Addr) (cp:Nat) (Sp:Nat→Prop) (bs:List Nat) (sA:Option Addr) (sc:Nat) (bns:Nat→Nat) (Fs:Nat→Nat→Prop):Prop where
 xb:wr.heap[x]?=some (.cells #[.int .i64 0,.slice A cf.n cp,.int .i64 (cf.least:Int),.int .i64 (cf.most:Int),.int .i64 (cf.beat:Int),.int .i64 (cf.batch:Int)] 27 (0,0))
 wb:wr.heap[bw]?=some (.cells (wnew x cf A cp (.slice sA bs.length sc)) 43 (0,0))
 m1:wr.heap[x+1]?=some (.map #[] 0)
 m2:wr.heap[x+1+1]?=some (.map #[] 0)
 m3:wr.heap[x+1+1+1]?=some (.map #[] 0)
 m4:wr.heap[x+1+1+1+1]?=some (.map #[] 0)
 bx:bw=x+5
 Bx:w.heap.size≤x
 sp:RowS encI 1 wr Sp A (ints (List.range' 1 cf.n))
 sl:∀ j,Sp j→j<w.heap.size
 row:Own encPt 1 35 wr w.heap.size (.slice sA bs.length sc) bs
 rx:∀ j,(Value.slice sA bs.length sc).ownBlock=some j→bw<j
 seat:∀ i b,bs[i]?=some b→bw<b∧wr.heap[b]?=some (.cells (snew ((i+1:Nat):Int) (bns i)) 52 (0,0))
 node:∀ i,i<bs.length→IdleAt wr (Fs i) (bns i) cf ((Rf.start cf).nd (i+1))
 ap:∀ i,i<bs.length→∀ j,Fs i j→bw<j∧j ∉ bs∧(Value.slice sA bs.length sc).ownBlock≠some j∧∀ i',i'<bs.length→i'≠i→¬ Fs i' j
 below:Below w.heap.size w wr
section
variable {w wr W5 w6:World} {bw x b:Nat} {cf:Rf.Cfg} {A:Option Addr} {cp:Nat} {Sp:Nat→Prop} {bs:List Nat} {sA:Option Addr} {sc:Nat} {bns:Nat→Nat} {Fs:Nat→Nat→Prop}
theorem Wnew.rowNe (h:Wnew w wr bw x cf A cp Sp bs sA sc bns Fs) {j:Nat} (hj:(Value.slice sA bs.length sc).ownBlock=some j):j≠bw∧j ∉ bs:=by
 obtain ⟨cur,hc⟩:=h.row.typed j hj
 refine ⟨fun e=>absurd (ne_typed (e▸hc) h.wb) (by decide),fun hm=>?_⟩
 obtain ⟨k,hk⟩:=List.getElem?_of_mem hm
 exact absurd (ne_typed hc (h.seat k j hk).2) (by decide)
theorem Wnew.nodup (h:Wnew w wr bw x cf A cp Sp bs sA sc bns Fs):bs.Nodup:=by
 refine List.pairwise_iff_getElem.2 fun i j hi hj hij e=>?_
 have h1:=(h.seat j _ (List.getElem?_eq_getElem hj)).2
 have h2:=(h.seat i _ (List.getElem?_eq_getElem hi)).2
 rw [e] at h2
 rw [h1] at h2
 have h3:=Option.some.inj h2
 injection h3 with h3
 unfold snew at h3
 have h4:=congrArg (fun a=>a[0]?) h3
 simp at h4
 omega
theorem Wnew.next (h:Wnew w wr bw x cf A cp Sp bs sA sc bns Fs) {c0 o:Obj} {v6:Value} {bn:Nat} {F:Nat→Prop} (hbz:b=wr.heap.size)
  (hc:Chg (·=b) (wr.alloc c0) W5) (hsb:W5.heap[b]?=some (.cells (snew ((bs.length+1:Nat):Int) bn) 52 (0,0))) (hN:IdleAt W5 F bn cf ((Rf.start cf).nd (bs.length+1))) (hF:∀ i,F i→(wr.alloc c0).heap.size≤i)
  (hg:(W5.alloc o).grownBy w6 (Value.slice sA bs.length sc).ownBlock) (hown:Own encPt 1 35 w6 w.heap.size v6 (bs++[b])) (ho:v6.ownBlock=(Value.slice sA bs.length sc).ownBlock∨v6.ownBlock=some (W5.alloc o).heap.size) :
  ∃ A6 c6,v6=.slice A6 (bs.length+1) c6∧Wnew w (w6.setCell ⟨bw,6,none⟩ v6) bw x cf A cp Sp (bs++[b]) A6 c6 (fun i=>if i=bs.length then bn else bns i) (fun i=>if i=bs.length then F else Fs i):=by
 obtain ⟨A6,c6,rfl⟩:=hown.form
 have hl:(bs++[b]).length=bs.length+1:=by simp
 have hz0:=World.alloc_size wr c0
 have hz5:=World.alloc_size W5 o
 have hz4:=hc.size
 have hz6:=hg.size
 have hbw:=block_lt h.wb
 have hsz:(w6.setCell ⟨bw,6,none⟩ (.slice A6 (bs++[b]).length c6)).heap.size=w6.heap.size:=by simp only [World.setCell,Array.size_modify]
 have hrl:=h.row.lt
 have hk5:∀ j,j<W5.heap.size→j≠bw→(Value.slice sA bs.length sc).ownBlock≠some j→(w6.setCell ⟨bw,6,none⟩ (.slice A6 (bs++[b]).length c6)).heap[j]?=W5.heap[j]?:=fun j hj h1 h2 =>
  (Below.heap_setCell _ _ _ _ h1).trans ((hg.block j (by omega) (fun e=>h2 e.symm)).trans (Below.heap_alloc _ _ _ hj))
 have hk5':∀ j,j<wr.heap.size→W5.heap[j]?=wr.heap[j]?:=fun j hj=>(hc.keep (by omega) (by omega)).trans (Below.heap_alloc _ _ _ hj)
 have hk:∀ j,j<wr.heap.size→j≠bw→(Value.slice sA bs.length sc).ownBlock≠some j→(w6.setCell ⟨bw,6,none⟩ (.slice A6 (bs++[b]).length c6)).heap[j]?=wr.heap[j]?:=fun j hj h1 h2=>(hk5 j (by omega) h1 h2).trans (hk5' j hj)
 have hlow:∀ j,j<bw→(w6.setCell ⟨bw,6,none⟩ (.slice A6 (bs++[b]).length c6)).heap[j]?=wr.heap[j]?:=fun j hj=>hk j (by omega) (by omega) fun e=>by have:=h.rx j e;omega
 have hbx:=h.bx
 have hBx:=h.Bx
 have hwb6:w6.heap[bw]?=some (.cells (wnew x cf A cp (.slice sA bs.length sc)) 43 (0,0)):=(hg.block bw (by omega) (fun e=>(h.rowNe e.symm).1 rfl)).trans ((Below.heap_alloc _ _ _ (by omega)).trans ((hk5' bw hbw).trans h.wb))
 have hbnr:(Value.slice sA bs.length sc).ownBlock≠some b:=fun e=>by have:=(hrl b e).2;omega
 have hFlt:=hN.bd.1
 have hb6:Below w.heap.size w (w6.setCell ⟨bw,6,none⟩ (.slice A6 (bs++[b]).length c6)):=by
  have c1:Chg (fun i=>w.heap.size≤i) w (wr.alloc c0):=Chg.ofBelow (h.below.alloc h.below.size _)
  have c2:=c1.trans2 hc (fun i hi=>.inr (by have:=h.below.size;omega))
  have c3:=(c2.alloc o).grown hg (fun k hk=>.inl (hrl k hk).1)
  exact (c3.setCell (p:=⟨bw,6,none⟩) (.inr (by show w.heap.size≤bw;omega)) (.slice A6 (bs++[b]).length c6)).toBelow (fun i hi=>hi)
 have hin:∀ j,j∈bs++[b]→j∈bs∨j=b:=fun j hj=>by simpa using hj
 have hob:∀ j,(Value.slice A6 (bs++[b]).length c6).ownBlock=some j→(Value.slice sA bs.length sc).ownBlock=some j∨j=W5.heap.size+1:=fun j hj=>by
  rcases ho with h1 | h1
  ·exact .inl (h1▸hj)
  ·rw [h1] at hj
   exact .inr (by have:=Option.some.inj hj;omega)
 refine ⟨A6,c6,by rw [hl],⟨(hlow x (by omega)).trans h.xb,?_,(hlow _ (by omega)).trans h.m1,(hlow _ (by omega)).trans h.m2,(hlow _ (by omega)).trans h.m3,(hlow _ (by omega)).trans h.m4,hbx,hBx,h.sp.keep fun j hj=>hlow j (by have:=h.sl j hj;omega),h.sl,?_,fun j hj=>?_,fun i c hi=>?_,fun i hi=>?_,fun i hi j hj=>?_,hb6⟩⟩
 ·rw [block_setCell hwb6];rfl
 ·exact hown.same fun j hj=>Below.heap_setCell _ _ _ _ fun e=>by
   obtain ⟨cur,hc⟩:=hown.typed j hj
   simp only at e
   rw [e] at hc
   exact absurd (ne_typed hc hwb6) (by decide)
 ·rcases hob j hj with h1 | h1
  ·exact h.rx j h1
  ·omega
 ·rw [List.getElem?_append] at hi
  by_cases hil:i<bs.length
  ·rw [if_pos hil] at hi
   have hs:=h.seat i c hi
   refine ⟨hs.1,?_⟩
   simp only [if_neg (show ¬ i=bs.length by omega)]
   exact (hk c (block_lt hs.2) (by omega) fun e=>(h.rowNe e).2 (List.mem_of_getElem? hi)).trans hs.2
  ·rw [if_neg hil] at hi
   have h0:i-bs.length=0:=by have:=(List.getElem?_eq_some_iff.1 hi).1;simp at this;omega
   rw [h0] at hi
   have he:i=bs.length:=by omega
   have hc:b=c:=by simpa using hi
   subst he;subst hc
   simp only [if_true]
   exact ⟨by omega,(hk5 b (block_lt hsb) (by omega) hbnr).trans hsb⟩
 ·rw [hl] at hi
  by_cases hil:i=bs.length
  ·subst hil
   simp only [if_true]
   exact hN.keep (by omega) fun j hj hlt=>hk5 j hlt (by have:=hF j hj;omega) fun e=>by have:=(hrl j e).2;have:=hF j hj;omega
  ·simp only [if_neg hil]
   have ha:=h.ap i (by omega)
   exact (h.node i (by omega)).keep (by omega) fun j hj hlt=>hk j hlt (by have:=(ha j hj).1;omega) (ha j hj).2.2.1
 ·rw [hl] at hi
  by_cases hil:i=bs.length
  ·subst hil
   simp only [if_true] at hj
   have h1:=hF j hj
   have h2:=hFlt j hj
   refine ⟨by omega,fun hm=>?_,fun e=>?_,fun i' hi' hne hf=>?_⟩
   ·rcases hin j hm with h3 | h3
    ·obtain ⟨k,hk⟩:=List.getElem?_of_mem h3
     have:=block_lt (h.seat k j hk).2;omega
    ·omega
   ·rcases hob j e with h3 | h3
    ·have:=(hrl j h3).2;omega
    ·omega
   ·rw [hl] at hi'
    simp only [if_neg hne] at hf
    have:=(h.node i' (by omega)).bd.1 j hf
    omega
  ·simp only [if_neg hil] at hj
   have ha:=h.ap i (by omega) j hj
   have hlt:=(h.node i (by omega)).bd.1 j hj
   refine ⟨ha.1,fun hm=>?_,fun e=>?_,fun i' hi' hne hf=>?_⟩
   ·rcases hin j hm with h3 | h3
    ·exact ha.2.1 h3
    ·omega
   ·rcases hob j e with h3 | h3
    ·exact ha.2.2.1 h3
    ·omega
   ·rw [hl] at hi'
    by_cases hie:i'=bs.length
    ·subst hie
     simp only [if_true] at hf
     have:=hF j hf;omega
    ·simp only [if_neg hie] at hf
     exact ha.2.2.2 i' (by omega) hne hf
theorem Wnew.done (h:Wnew w wr bw x cf A cp Sp bs sA sc bns Fs) (hn:bs.length=cf.n) (hc:Rf.CfgOK cf):CWx wr w.heap.size bw bs cf 0 false (sA,sc) (Rf.start cf) Rf.gh0:=by
 have hbx:=h.bx
 have hBx:=h.Bx
 have hbw:=block_lt h.wb
 obtain ⟨g,hg⟩:∃ g:VG,g=⟨cf.n,cf.least,cf.most,cf.beat,cf.batch,A,cp,sA,sc,none,0,0,x+1,x+1+1,x+1+1+1,x+1+1+1+1,[],[],[],[],0,false⟩:=⟨_,rfl⟩
 have hmt:∀ j,g.mut bw bs j→x<j∧(j≤bw∨j∈bs):=fun j hj=>by
  subst hg
  rcases hj with e | e | e | e | e | e | e
  ·exact ⟨by omega,.inl (by omega)⟩
  ·obtain ⟨k,hk⟩:=List.getElem?_of_mem e
   exact ⟨by have:=(h.seat k j hk).1;omega,.inr e⟩
  ·simp only at e;exact ⟨by omega,.inl (by omega)⟩
  ·simp only at e;exact ⟨by omega,.inl (by omega)⟩
  ·simp only at e;exact ⟨by omega,.inl (by omega)⟩
  ·simp only at e;exact ⟨by omega,.inl (by omega)⟩
  ·cases e
 have hwb:=h.wb
 unfold wnew at hwb
 rw [hn] at hwb
 have hrow:=h.row
 have hrs:=hrow.ownO.rowS (S:=fun j=>Sp j∨(Value.slice sA bs.length sc).ownBlock=some j) len_Pt fun k hk=>.inr hk
 have hat:VAt wr (fun j=>Sp j∨(Value.slice sA bs.length sc).ownBlock=some j) bw bs g (fun i=>⟨(i:Int),bns (i-1),0,0,0,0,1,0,none,0,0,[]⟩) []:=by
  refine ⟨by rw [hg];exact hwb,fun j hj=>?_,fun j hj hm=>?_,by rw [hg];exact h.sp.mono fun j hj=>.inl hj,by rw [hg];exact hrs.1,by rw [hg];exact hn,h.nodup,fun i b hb=>?_,by rw [hg];exact MapG.empty h.m1,by rw [hg];exact MapG.empty h.m2,by rw [hg];exact MapG.empty h.m3,by rw [hg];exact MapG.empty h.m4,by rw [hg];simp,fun p hp=>by rw [hg] at hp;exact absurd hp (by simp),by rw [hg];exact OwnO.nil,fun m hm=>absurd hm (by simp)⟩
  ·rcases hj with hj | hj
   ·have:=h.sl j hj;omega
   ·exact (hrow.lt j hj).2
  ·have hm':=hmt j hm
   rcases hj with hj | hj
   ·have:=h.sl j hj;omega
   ·have h1:=h.rx j hj
    rcases hm'.2 with h2 | h2
    ·omega
    ·exact (h.rowNe hj).2 h2
  ·have hs:=h.seat i b hb
   exact ⟨⟨hs.2,EntsS.nil,rfl,Nat.le_refl _⟩,rfl⟩
 refine ⟨_,g,_,[],Fs,0,⟨hat,by rw [hg];exact ⟨rfl,rfl,rfl,rfl,rfl⟩,fun i hi=>h.node i (by omega),fun i hi j hj=>?_,⟨fun j hj=>by have:=(hmt j hj).1;omega,fun i hi j hj=>by have:=(h.ap i (by omega) j hj).1;omega⟩,fun i hi=>⟨rfl,rfl,rfl,rfl,rfl,rfl⟩,rfl,?_,fun i hi=>Nat.le_refl _,hc,Rf.Ok.start hc,fun m hm=>absurd hm (by simp [Rf.start]),fun i hi=>Rf.Tame.fresh (Nat.zero_le _),Rf.Nms.nil,fun p hp=>rfl⟩,by rw [hg],by rw [hg]⟩
 ·have ha:=h.ap i (by omega) j hj
  refine ⟨fun hs=>?_,fun hm=>?_,fun k hk hne=>ha.2.2.2 k (by omega) hne⟩
  ·rcases hs with hs | hs
   ·have:=h.sl j hs;omega
   ·exact ha.2.2.1 hs
  ·rcases (hmt j hm).2 with h2 | h2
   ·omega
   ·exact ha.2.1 h2
 ·rw [hg]
  exact ⟨rfl,by omega,fun k x hk=>by simp [kget] at hk,fun k x hk=>by simp [kget] at hk,fun i hi=>absurd hi (Nat.not_lt_zero _),fun i hi=>rfl⟩
end
set_option maxRecDepth 100000 in
set_option maxHeartbeats 4000000 in
theorem world_any (A:Option Addr) (cp:Nat) (cf:Rf.Cfg) (Sp:Nat→Prop) (w:World) (hp:RowS encI 1 w Sp A (ints (List.range' 1 cf.n))) (hSp:∀ i,Sp i→i<w.heap.size) (hcfg:Rf.CfgOK cf) :
  Calls Tryz.prog 8 #[.agg #[.int .i64 0,.slice A cf.n cp,.int .i64 (cf.least:Int),.int .i64 (cf.most:Int),.int .i64 (cf.beat:Int),.int .i64 (cf.batch:Int)],.bool false] w fun e w'=>∃ bw bs ss,e=.returned (.pointer (some ⟨bw,0,none⟩))∧CWx w' w.heap.size bw bs cf 0 false ss (Rf.start cf) Rf.gh0∧Below w.heap.size w w':=by
 have HP:=ld hp
 have HSp:=ld hSp
 have HCF:=ld hcfg
 have hn5:=hcfg.n
 obtain ⟨L,hL⟩:∃ L:Int,L=cf.least:=⟨_,rfl⟩
 obtain ⟨Mo,hMo⟩:∃ Mo:Int,Mo=cf.most:=⟨_,rfl⟩
 obtain ⟨Bt,hBt⟩:∃ Bt:Int,Bt=cf.beat:=⟨_,rfl⟩
 obtain ⟨Ba,hBa⟩:∃ Ba:Int,Ba=cf.batch:=⟨_,rfl⟩
 rw [←hL,←hMo,←hBt,←hBa]
 have HE:=ld (And.intro hL (And.intro hMo (And.intro hBt hBa)))
 obtain ⟨n,hn⟩:∃ n,n=cf.n:=⟨_,rfl⟩
 rw [←hn]
 rw [←hn] at hn5
 have HN:=ld hn
 clear hp hSp hcfg hL hMo hBt hBa hn
 go_enter Tryz.func8,Tryz.ntmps8
 go_wp2_with (fail)
 have hx1:=World.alloc_at w (.cells #[.int .i64 0,.slice A n cp,.int .i64 L,.int .i64 Mo,.int .i64 Bt,.int .i64 Ba] 27)
 have hb1:=below_alloc1 w (.cells #[.int .i64 0,.slice A n cp,.int .i64 L,.int .i64 Mo,.int .i64 Bt,.int .i64 Ba] 27)
 have hz1:=World.alloc_size w (.cells #[.int .i64 0,.slice A n cp,.int .i64 L,.int .i64 Mo,.int .i64 Bt,.int .i64 Ba] 27)
 obtain ⟨x,hx⟩:∃ x,x=w.heap.size:=⟨_,rfl⟩
 rw [←hx] at hx1 hz1
 rw [←hx]
 have HX:=ld hx
 clear hx
 generalize w.alloc (.cells #[.int .i64 0,.slice A n cp,.int .i64 L,.int .i64 Mo,.int .i64 Bt,.int .i64 Ba] 27)=W1 at hx1 hb1 hz1 ⊢
 have HX1:=ld hx1
 have HB1:=ld hb1
 have HZ1:=ld hz1
 clear hx1 hb1 hz1
 rw [run_makeMap]
 go_wp2_with (fail)
 rw [run_makeMap]
 go_wp2_with (fail)
 rw [run_makeMap]
 go_wp2_with (fail)
 rw [run_makeMap]
 simp only [World.alloc_size,HZ1.out]
 generalize hW2:(((W1.alloc (.map #[] 0)).alloc (.map #[] 0)).alloc (.map #[] 0)).alloc (.map #[] 0)=W2
 have hb2:Below W1.heap.size W1 W2:=by rw [←hW2];exact ((((Below.refl _ _).alloc (Nat.le_refl _) _).alloc (by simp) _).alloc (by simp;omega) _).alloc (by simp;omega) _
 have hm1:W2.heap[x+1]?=some (.map #[] 0):=by rw [←hW2];have:=World.alloc_at W1 (.map #[] 0);rw [HZ1.out] at this;exact block_alloc (block_alloc (block_alloc this _) _) _
 have hm2:W2.heap[x+1+1]?=some (.map #[] 0):=by rw [←hW2];have:=World.alloc_at (W1.alloc (.map #[] 0)) (.map #[] 0);rw [World.alloc_size,HZ1.out] at this;exact block_alloc (block_alloc this _) _
 have hm3:W2.heap[x+1+1+1]?=some (.map #[] 0):=by rw [←hW2];have:=World.alloc_at ((W1.alloc (.map #[] 0)).alloc (.map #[] 0)) (.map #[] 0);rw [World.alloc_size,World.alloc_size,HZ1.out] at this;exact block_alloc this _
 have hm4:W2.heap[x+1+1+1+1]?=some (.map #[] 0):=by rw [←hW2];have:=World.alloc_at (((W1.alloc (.map #[] 0)).alloc (.map #[] 0)).alloc (.map #[] 0)) (.map #[] 0);rwa [World.alloc_size,World.alloc_size,World.alloc_size,HZ1.out] at this
 have hz2:W2.heap.size=x+5:=by rw [←hW2];simp [HZ1.out]
 clear hW2
 have HM1:=ld hm1
 have HM2:=ld hm2
 have HM3:=ld hm3
 have HM4:=ld hm4
 have HZ2:=ld hz2
 have HB2:=ld hb2
 have hx2:W2.heap[x]?=some (.cells #[.int .i64 0,.slice A n cp,.int .i64 L,.int .i64 Mo,.int .i64 Bt,.int .i64 Ba] 27 (0,0)):=(hb2.block x (block_lt HX1.out)).trans HX1.out
 have HX2:=ld hx2
 obtain ⟨x0,x1,x2,x3,x4,x5⟩:=cells6 hx2
 have hlx:=block_lt hx2
 clear hm1 hm2 hm3 hm4 hz2 hb2 hx2
 go_wp2_with (fail)
 have hw3:=World.alloc_at W2 (.cells #[.int .i64 0,.slice A n cp,.int .i64 L,.int .i64 Mo,.int .i64 Bt,.int .i64 Ba,.slice none 0 0,.slice none 0 0,.map (some (x+1)),.map (some (x+1+1)),.map (some (x+1+1+1)),.map (some (x+1+1+1+1)),.int .i64 0,.bool false] 43)
 have hb3:=below_alloc1 W2 (.cells #[.int .i64 0,.slice A n cp,.int .i64 L,.int .i64 Mo,.int .i64 Bt,.int .i64 Ba,.slice none 0 0,.slice none 0 0,.map (some (x+1)),.map (some (x+1+1)),.map (some (x+1+1+1)),.map (some (x+1+1+1+1)),.int .i64 0,.bool false] 43)
 obtain ⟨bw,hbw⟩:∃ bw,bw=W2.heap.size:=⟨_,rfl⟩
 rw [←hbw] at hw3
 rw [←hbw]
 have HBW:=ld hbw
 clear hbw x0 x1 x2 x3 x4 x5 hlx
 generalize W2.alloc (.cells #[.int .i64 0,.slice A n cp,.int .i64 L,.int .i64 Mo,.int .i64 Bt,.int .i64 Ba,.slice none 0 0,.slice none 0 0,.map (some (x+1)),.map (some (x+1+1)),.map (some (x+1+1+1)),.map (some (x+1+1+1+1)),.int .i64 0,.bool false] 43)=W3 at hw3 hb3 ⊢
 have HBB:Hid (Below w.heap.size w W3):=ld (HB1.out.trans ((HB2.out.mono HB1.out.size).trans (hb3.mono (Nat.le_trans HB1.out.size HB2.out.size))))
 have hk2:∀ j,j<W2.heap.size→W3.heap[j]?=W2.heap[j]?:=fun j hj=>hb3.block j hj
 have H0:Hid (Wnew w W3 bw x cf A cp Sp [] none 0 (fun _=>0) (fun _ _=>False)):=ld (by
  have q1:=HX.out
  have q2:=HZ2.out
  have q3:=HBW.out
  have hE:=HE.out
  have hn:=HN.out
  refine ⟨?_,?_,(hk2 _ (by omega)).trans HM1.out,(hk2 _ (by omega)).trans HM2.out,(hk2 _ (by omega)).trans HM3.out,(hk2 _ (by omega)).trans HM4.out,by omega,by omega,HP.out.keep (fun i hi=>HBB.out.block i (HSp.out i hi)),HSp.out,Own.nil,fun j hj=>(nomatch hj),fun i b hb=>(by simp at hb),fun i hi=>absurd hi (Nat.not_lt_zero _),fun i hi=>absurd hi (Nat.not_lt_zero _),HBB.out⟩
  ·rw [←hE.1,←hE.2.1,←hE.2.2.1,←hE.2.2.2,←hn];exact (hk2 x (by omega)).trans HX2.out
  ·unfold wnew;rw [←hE.1,←hE.2.1,←hE.2.2.1,←hE.2.2.2,←hn];exact hw3)
 clear hw3 hb3 hk2 HBB HX2 HX1 HB1 HZ1 HM1 HM2 HM3 HM4 HZ2 HB2 HBW HX
 go_loopw [6] (fun i wr=>∃ bs sA sc bns Fs,i=.int .i64 (bs.length:Int)∧bs.length≤n∧Hid (Wnew w wr bw x cf A cp Sp bs sA sc bns Fs)) (fun i _=>(6-intOf i).toNat)
 case atStart=>exact ⟨[],none,0,_,_,rfl,Nat.zero_le _,H0⟩
 case round =>
  obtain ⟨bs,sA,sc,bns,Fs,rfl,hkn,HW⟩:=hrel
  clear H0
  obtain ⟨k,hk⟩:∃ k,k=bs.length:=⟨_,rfl⟩
  rw [←hk]
  rw [←hk] at hkn
  have HK:=ld hk
  have hxr:wr.heap[x]?=some (.cells #[.int .i64 0,.slice A n cp,.int .i64 L,.int .i64 Mo,.int .i64 Bt,.int .i64 Ba] 27 (0,0)):=by
   rw [HE.out.1,HE.out.2.1,HE.out.2.2.1,HE.out.2.2.2,HN.out];exact HW.out.xb
  clear hk
  obtain ⟨x0,x1,x2,x3,x4,x5⟩:=cells6 hxr
  have hlx:=block_lt hxr
  have HXR:=ld hxr
  clear hxr
  by_cases hlt:k<n
  ·have hlt':(k:Int)<(n:Int):=by omega
   obtain ⟨pb,po,hpA,hpS,hpc⟩:=RowS.at_ HW.out.sp (k:=k) (x:=((k:Int)+1)) (by
    unfold ints
    rw [List.getElem?_map,List.getElem?_range' (by rw [←HN.out];exact hlt)]
    simp;omega)
   have p0:wr.cell? ⟨pb,po+k,none⟩=some (.int .i64 ((k:Int)+1)):=by simpa using hpc 0 _ rfl
   have hpl:pb<wr.heap.size:=Nat.lt_of_lt_of_le (HSp.out pb hpS) HW.out.below.size
   have HPA:=ld hpA
   rw [hpA] at x1
   clear hpA hpS hpc x0 x2 x3 x4 x5
   go_wp2_with (fail)
   have hs4:=World.alloc_at wr (.cells #[.int .i64 ((k:Int)+1),.pointer none,.pointer none,.int .i64 0,.int .i64 0,.int .i64 0,.int .i64 0,.slice none 0 0,.int .i64 0,.int .i64 0,.int .i64 0,.int .i64 0] 52)
   have hb4:=below_alloc1 wr (.cells #[.int .i64 ((k:Int)+1),.pointer none,.pointer none,.int .i64 0,.int .i64 0,.int .i64 0,.int .i64 0,.slice none 0 0,.int .i64 0,.int .i64 0,.int .i64 0,.int .i64 0] 52)
   obtain ⟨b1,hb1⟩:∃ b1,b1=wr.heap.size:=⟨_,rfl⟩
   rw [←hb1] at hs4
   rw [←hb1]
   have HBB:=ld hb1
   have hz4:=World.alloc_size wr (.cells #[.int .i64 ((k:Int)+1),.pointer none,.pointer none,.int .i64 0,.int .i64 0,.int .i64 0,.int .i64 0,.slice none 0 0,.int .i64 0,.int .i64 0,.int .i64 0,.int .i64 0] 52)
   have HZ4:=ld hz4
   have hwr:=HW.out.wb
   unfold wnew at hwr
   have hw4:=(hb4.block bw (block_lt HW.out.wb)).trans hwr
   have hrow4:=HW.out.sp.keep (fun i hi=>hb4.block i (Nat.lt_of_lt_of_le (HSp.out i hi) HW.out.below.size))
   have hSP4:∀ i,Sp i→i<(wr.alloc (.cells #[.int .i64 ((k:Int)+1),.pointer none,.pointer none,.int .i64 0,.int .i64 0,.int .i64 0,.int .i64 0,.slice none 0 0,.int .i64 0,.int .i64 0,.int .i64 0,.int .i64 0] 52)).heap.size∧i≠b1:=fun i hi=>by have h1:=HSp.out i hi;have h2:=HW.out.below.size;have h3:=HBB.out;omega
   have HC0:=ld (wbegin_any bw b1 cf.n ((k+1:Nat):Int) cf.batch (ints (List.range' 1 cf.n)) Sp A none cp 0 0 cf.least cf.most cf.beat 0 0 0 0 0 0 0 k _ _ _ _ _ _ _ _ (.pointer none) [] _ hw4 hs4 hSP4 (by simp [ints]) hrow4 EntsS.nil rfl ⟨by decide,by decide,.inl rfl,by decide,by decide,Iff.rfl,by decide,by decide,by decide,fun k e hk=>(by simp at hk),by decide,by decide⟩ (cfg_ok HCF.out (by rw [←HN.out];exact hlt)))
   clear hw4 hrow4 hSP4 hs4 hb4 hwr hz4 hb1
   clear x1 hlx p0 hpl
   refine HC0.out.mono ?_
   rintro e W5 ⟨rfl,F,bn,c,hN,hs5,hC5,hF5,hcp,hcl,hcn⟩
   have hid:=new_idle HCF.out hN hcp (l:=[]) hcl hcn
   have hlw5:bw<W5.heap.size:=by have:=hC5.size;have:=block_lt HW.out.wb;have:=HZ4.out;omega
   have hw5:W5.heap[bw]?=some (.cells (wnew x cf A cp (.slice sA bs.length sc)) 43 (0,0)):=(hC5.keep (by have:=block_lt HW.out.wb;have:=HZ4.out;omega) (by have:=block_lt HW.out.wb;have:=HBB.out;omega)).trans ((Below.heap_alloc _ _ _ (block_lt HW.out.wb)).trans HW.out.wb)
   rw [←HK.out] at hw5
   have HW5:=ld hw5
   have HS5:=ld hs5
   have HC5:=ld hC5
   have HID:=ld hid
   have HF5:=ld hF5
   have hown0:Own encPt 1 35 W5 w.heap.size (.slice sA bs.length sc) bs:=HW.out.row.same fun j hj=>(hC5.keep (by have:=(HW.out.row.lt j hj).2;have:=HZ4.out;omega) (by have:=(HW.out.row.lt j hj).2;have:=HBB.out;omega)).trans (Below.heap_alloc _ _ _ (HW.out.row.lt j hj).2)
   rw [←HK.out] at hown0
   have HO:=ld hown0
   have hwB:w.heap.size≤W5.heap.size:=by have:=HW.out.below.size;have:=hC5.size;have:=HZ4.out;omega
   have HL:Hid (bs.length=k):=ld HK.out.symm
   have hne:(Value.slice sA k sc).ownBlock≠some bw:=fun e=>(HW.out.rowNe (by rw [←HK.out];exact e)).1 rfl
   have HNE:=ld hne
   clear hN hs5 hC5 hF5 hcp hcl hcn hid hw5 hown0 hne HC0
   have d6:W5.cell? ⟨bw,6,none⟩=some (.slice sA k sc):=cell_block HW5.out 6 _ rfl
   have hrow:Row encPt 1 (W5.alloc (.cells #[.pointer (some ⟨b1,0,none⟩)] 35)) (W5.heap.size+1) (some ⟨W5.heap.size,0,none⟩) [b1]:=.inr ⟨_,_,rfl,Nat.lt_succ_self _,fun k y hk j v hv=>by
    have hk0:k=0:=by have:=(List.getElem?_eq_some_iff.1 hk).1;simp at this;exact this
    subst hk0
    simp at hk;subst hk
    match j,hv with
    | 0,hv=>simp [encPt] at hv;subst hv;simp⟩
   go_wp2_with (at_builtin;refine wp_app _ encPt 1 rfl _ _ 37 rfl w.heap.size 35 8 Tryz.underlying37 info35v (by omega) len_Pt one_Pt (.slice sA k sc) bs rfl (HO.out.alloc _) _ _ 1 1 [b1] rfl rfl hrow (by rw [HL.out];simp;omega) (by rw [HL.out];simp;omega) (by simp;omega) ?_;intro v6 w6 hown6 hg6 hat6 _;have hh6:=(hg6.block bw (by simp;omega) (fun e=>HNE.out e.symm)).trans (block_alloc HW5.out _);have d16:w6.cell? ⟨bw,6,none⟩=some (.slice sA k sc):=cell_block hh6 6 _ rfl;have hf6:=frozen_block hh6;have hlh6:=block_lt hh6;obtain ⟨A6,c6,hv6⟩:=hown6.form;rw [List.length_append,List.length_singleton,HL.out] at hv6;subst hv6)
   go_roundw
   case rel =>
    have hg6':(W5.alloc (.cells #[.pointer (some ⟨b1,0,none⟩)] 35)).grownBy w6 (Value.slice sA bs.length sc).ownBlock:=by rw [HL.out];exact hg6
    have hat6':(Value.slice A6 (k+1) c6).ownBlock=(Value.slice sA bs.length sc).ownBlock∨(Value.slice A6 (k+1) c6).ownBlock=some (W5.alloc (.cells #[.pointer (some ⟨b1,0,none⟩)] 35)).heap.size:=by rw [HL.out];exact hat6
    have hsb:W5.heap[b1]?=some (.cells (snew ((bs.length+1:Nat):Int) bn) 52 (0,0)):=by rw [HL.out];exact HS5.out
    have hid:IdleAt W5 F bn cf ((Rf.start cf).nd (bs.length+1)):=by
     rw [HL.out]
     have hd:((Rf.start cf).nd (k+1))=Rf.fresh cf (k:Int) (k+1) 0 0 [] 0:=by
      show Rf.fresh cf (((k+1:Nat):Int)-1) (k+1) 0 0 [] 0=_
      rw [show ((k+1:Nat):Int)-1=(k:Int) by omega]
     rw [hd];exact HID.out
    obtain ⟨A7,c7,_,hW6⟩:=HW.out.next HBB.out HC5.out hsb hid HF5.out hg6' hown6 hat6'
    exact ⟨bs++[b1],A7,c7,_,_,by rw [List.length_append,HL.out];go_num,by rw [List.length_append,HL.out];simp;omega,ld hW6⟩
   case measure=>first | (simp [intOf];done) | (simp [intOf];omega)
  ·have hlt':¬ ((k:Int)<(n:Int)):=by omega
   go_wp2_with (fail)
   go_ret
   exact ⟨bw,rfl,⟨bs,⟨sA,sc,HW.out.done (by have:=HK.out;have:=HN.out;omega) HCF.out⟩⟩,HW.out.below⟩
end Go.Proofs.YtocogcgnahbpkaaGreat
