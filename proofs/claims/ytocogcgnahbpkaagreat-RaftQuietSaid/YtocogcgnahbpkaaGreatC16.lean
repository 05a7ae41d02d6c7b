import Derived.Test.YtocogcgnahbpkaaGreatC12
import Derived.Test.YtocogcgnahbpkaaGreatC15
namespace Go.Proofs.YtocogcgnahbpkaaGreat
open Go.RowKit
theorem NdAt.drewN {w:World} {F G:Nat→Prop} {b:Nat} {s:NS} {c:NC} (h:NdAt w F G b s c) (n:Nat):NdAt (w.drewN n) F G b s c:=h.keep (Nat.le_refl _) fun _ _ _=>rfl
def haveOf (mt:List (Int×Int)) (i:Int):Nat:=1+(mt.filter fun p=>i≤p.2).length
def countFrom (s:NS) (l:List E) (mt:List (Int×Int)) (np:Nat):Nat→Int
 | 0=>s.commit
 | k+1=>if lterm s l (s.commit+(k+1:Nat))=s.term then (if np<2*haveOf mt (s.commit+(k+1:Nat)) then s.commit+(k+1:Nat) else countFrom s l mt np k) else s.commit
set_option maxRecDepth 100000 in
set_option maxHeartbeats 2000000 in
theorem count_any (b:Nat) (s:NS) (c:NC) (F G:Nat→Prop) (w:World) (h:NdAt w F G b s c) (m:Nat) (hm:c.mtR=some m) (h0:0≤s.snap) (h1:s.snap≤2199023255552) (h2:c.log.length≤100000) (hc0:s.snap≤s.commit) (hc1:s.commit≤s.snap+c.log.length) (hml:c.mt.length≤7) :
  Calls Tryz.prog 105 #[.pointer (some ⟨b,0,none⟩)] w fun e w'=>e=.returned (.tuple #[])∧Chg F w w'∧NdAt w' F G b { s with commit:=countFrom s (c.log.map con) c.mt c.peers.length (s.snap+c.log.length-s.commit).toNat } c:=by
 obtain ⟨_,hln,_⟩:=h.rest.log.ents
 have hpn:=(Own.cap h.rest.peers).1
 obtain ⟨top,htop⟩:∃ top:Nat,s.commit+top=s.snap+c.log.length:=⟨(s.snap+c.log.length-s.commit).toNat,by omega⟩
 have HT:=ld (show (s.snap+c.log.length-s.commit).toNat=top by omega)
 have hb:=h.blk
 have HH:=ld h
 have HP:=ld hpn
 have HL:=ld hln
 have HM:=ld hm
 have hl1:c.ln≤100000:=by omega
 have HTT:=ld htop
 have hE:s.snap+(c.ln:Int)=s.commit+top:=by omega
 have HE:=ld hE
 have htl:(top:Int)≤100000:=by omega
 have hcb:s.commit≤3000000000000:=by omega
 clear h hpn hln hm htop hE
 go_enter Tryz.func105,Tryz.ntmps105
 go_wp2_with (fail)
 refine (end_any b s c _ hb (by omega) (by omega) (by omega)).mono ?_
 rintro e w1 ⟨rfl,nq,rfl⟩
 rw [HE.out]
 clear hb
 go_wp2_with (fail)
 go_loopw [2] (fun i wr=>∃ k:Nat,i=.int .i64 (s.commit+k)∧k≤top∧Hid (countFrom s (c.log.map con) c.mt c.peers.length k=countFrom s (c.log.map con) c.mt c.peers.length top)∧Below w.heap.size w wr) (fun i _=>(intOf i-s.commit).toNat)
 case atStart=>exact ⟨top,rfl,Nat.le_refl _,ld rfl,below_drewN' (Below.refl _ _) _⟩
 case round =>
  obtain ⟨k,rfl,hk,HC,hbl⟩:=hrel
  have hN:=HH.out.below hbl
  have hbw:=hN.blk
  have c11:=nc11 hbw
  have c6:=nc6 hbw
  have c16:wr.cell? ⟨b,16,none⟩=some (.map (some m)):=by rw [←HM.out];exact nc16 hbw
  have hfz:=frozen_block hbw
  have HMT:MI wr m c.mt:=by
   have:=hN.rest.mt
   rw [HM.out] at this
   exact this.2
  have HN:=ld hN
  have HB:=ld hbw
  clear hN hbw
  rcases k with _ | k
  ·have hlt:¬ (s.commit<s.commit+((0:Nat):Int)):=by omega
   go_wp2
   go_quiet (fail)
   go_wp2
   go_end0
   refine ⟨rfl,(Chg.ofBelow hbl).drewN _,?_⟩
   rw [HT.out,←HC.out]
   exact HN.out.drewN _
  ·obtain ⟨i,hi⟩:∃ i:Int,i=s.commit+((k+1:Nat):Int):=⟨_,rfl⟩
   rw [←hi]
   have hi1:s.commit<i:=by omega
   have hi2:i≤s.snap+c.log.length:=by have:=HTT.out;omega
   have hgt:i-1=s.commit+(k:Int):=by omega
   have HG:=ld hgt
   have HI:=ld hi
   clear hgt hi
   by_cases ht:lterm s (c.log.map con) i=s.term
   ·have htb:(lterm s (c.log.map con) i==s.term)=true:=by simpa using ht
    have HTE:=ld ht
    clear ht
    go_wp2
    go_quiet ((go_at_call 107;exact Calls.quiet_of (term_any b s c i F G _ (HN.out.drewN _) (by omega) (by omega) (by omega) hi2 (by omega))))
    have HMT1:MI (wr.drewN nq) m c.mt:=HMT.same rfl
    have HN1:=ld (HN.out.drewN nq)
    have hbl1:Below w.heap.size w (wr.drewN nq):=below_drewN' hbl nq
    have c16':(wr.drewN nq).cell? ⟨b,16,none⟩=some (.map (some m)):=c16
    generalize wr.drewN nq=w1 at HMT1 HN1 hbl1 c16' ⊢
    clear HMT HN hbl c16 c11 c6 hfz HB
    go_wp2_with (at_range;refine wp_range _ rfl _ 39 rfl 3 3 Tryz.underlying39 m c.mt rfl HMT1 ?_;intro w2 hrg2 hb2 hz2)
    go_frame
    go_loopw [3,5] (fun hv _ w3=>∃ (n:Nat) (left:List (Int×Int)),hv=.int .i64 n∧Ranging Tryz.prog 3 (Value.int .i64) (Value.int .i64) w3 m w1.heap.size left∧Hid (n+(left.filter fun p=>i≤p.2).length=haveOf c.mt i)∧n+left.length≤8∧Below w1.heap.size w1 w3) (fun _ _ w3=>w3.rangeLeft m w1.heap.size)
    case atStart=>exact ⟨1,c.mt,rfl,hrg2,ld rfl,by omega,hb2⟩
    case round =>
     obtain ⟨n,left,rfl,hrg,HCN,hn8,hb3⟩:=hrel
     have hleq:=ld hrg.left_eq
     go_wp2_with (at_next;refine wp_next _ rfl _ rfl 3 m w1.heap.size left rfl hrg ?_ ?_)
     ·intro hl0
      have hcount:=HCN.out
      rw [hl0] at hcount
      simp only [List.filter_nil,List.length_nil,Nat.add_zero] at hcount
      have HCN2:=ld hcount
      clear hl0 hcount
      have hn8':n≤8:=by omega
      clear hrg
      have hN3:=HN1.out.below hb3
      have hB3:=hN3.blk
      have c11:=nc11 hB3
      have hfz:=frozen_block hB3
      have HN3:=ld hN3
      clear hN3
      by_cases hmaj:c.pn<2*n
      ·have hmb:decide ((c.pn:Int)<2*(n:Int))=true:=by simp;omega
       have HB5:=ld (block_setCell (o:=11) hB3 (.int .i64 i))
       go_wp2_with (go_at_call 96;refine (majority_any b s c n _ hB3 (by omega) (by omega)).mono ?_;rintro e w4 ⟨rfl,rfl⟩)
       refine bodyPost_ret (results_none rfl _ _ _) rfl ?_
       refine ⟨rfl,chgF ((Chg.ofBelow hbl1).belowN hb3 hbl1.size) HH.out.hb _,?_⟩
       rw [HT.out,←HC.out]
       simp only [countFrom]
       rw [←HI.out,if_pos HTE.out,if_pos (by have:=HCN2.out;have:=HP.out;omega)]
       exact HN3.out.scal (chg1 Chg.refl _) HB5.out
      ·have hmb:decide ((c.pn:Int)<2*(n:Int))=false:=by simp;omega
       go_wp2_with (go_at_call 96;refine (majority_any b s c n _ hB3 (by omega) (by omega)).mono ?_;rintro e w4 ⟨rfl,rfl⟩)
       go_roundw
       case rel =>
        refine ⟨k,by rw [HG.out],by omega,?_,hbl1.trans (hb3.mono hbl1.size)⟩
        have h1:=HC.out
        simp only [countFrom] at h1
        rw [←HI.out,if_pos HTE.out,if_neg (by have:=HCN2.out;have:=HP.out;omega)] at h1
        exact ld h1
       case measure=>simp [intOf];omega
     ·intro p1 p2 left' w4 hp hrg4 hg4 hs4 hen
      have hlen:=ld hp.length_eq
      have hfl:=(hp.filter fun p=>i≤p.2).length_eq
      have hbw4:Below w1.heap.size w1 w4:=hb3.grown hg4 hb3.size (fun j hj=>by injection hj with hj;omega)
      by_cases hpi:i≤p2
      ·rw [List.filter_cons_of_pos (by simpa using hpi)] at hfl
       have HFL:=ld hfl
       clear hfl hp
       go_wp2
       go_roundw
       case rel =>
        have h1:=HCN.out;have h2:=HFL.out;have h3:=hlen.out
        simp only [List.length_cons] at h2 h3
        exact ⟨n+1,left',by go_num,hrg4,ld (by omega),by omega,hbw4⟩
       case measure =>
        rw [hrg4.left_eq,hleq.out]
        have h3:=hlen.out
        simp only [List.length_cons] at h3
        omega
      ·rw [List.filter_cons_of_neg (by simpa using hpi)] at hfl
       have HFL:=ld hfl
       clear hfl hp
       go_wp2
       go_roundw
       case rel =>
        have h1:=HCN.out;have h2:=HFL.out;have h3:=hlen.out
        simp only [List.length_cons] at h3
        exact ⟨n,left',rfl,hrg4,ld (by omega),by omega,hbw4⟩
       case measure =>
        rw [hrg4.left_eq,hleq.out]
        have h3:=hlen.out
        simp only [List.length_cons] at h3
        omega
   ·have htb:(lterm s (c.log.map con) i==s.term)=false:=by simpa using ht
    go_wp2
    go_quiet ((go_at_call 107;exact Calls.quiet_of (term_any b s c i F G _ (HN.out.drewN _) (by omega) (by omega) (by omega) hi2 (by omega))))
    go_wp2
    go_end0
    refine ⟨rfl,(Chg.ofBelow hbl).drewN _,?_⟩
    rw [HT.out,←HC.out]
    simp only [countFrom]
    rw [←HI.out,if_neg ht]
    exact HN.out.drewN _
def MR.sent (m:MR) (id dst term:Int):MR:={ m with from_:=id,to_:=dst,term:=if m.term=0 then term else m.term }
theorem row_one {w:World} {z:Nat} {m:MR} (h:w.heap[z]?=some (.cells #[.int .i64 m.kind,.int .i64 m.from_,.int .i64 m.to_,.int .i64 m.term,.int .i64 m.idx,.int .i64 m.lt,.int .i64 m.commit,.slice m.eA m.en m.ec,.bool m.rej,.int .i64 m.hint] 59 (0,0))) {B:Nat} (hB:z<B):Row encM 10 w B (some ⟨z,0,none⟩) [m]:=by
 refine .inr ⟨z,0,rfl,hB,fun k x hk j v hv=>?_⟩
 have hk0:k=0:=by have:=(List.getElem?_eq_some_iff.1 hk).1;simp at this;exact this
 subst hk0
 simp at hk;subst hk
 have hj:j<10:=by have:=(List.getElem?_eq_some_iff.1 hv).1;simpa [encM] using this
 have e:0+0*10+j=j:=by omega
 rw [e]
 refine cell_block h j v ?_
 rw [←hv]
 rcases j with _ | _ | _ | _ | _ | _ | _ | _ | _ | _ | j <;> first | rfl | omega
theorem NCAt.remsg2 {w w':World} {F G G':Nat→Prop} {b:Nat} {c:NC} (h:NCAt w F G c) {arr:Array Value} (hb:w.heap[b]?=some (.cells arr 126 (0,0))) (hc:Chg (fun i=>i=b∨(Value.slice c.mA c.mn c.mc).ownBlock=some i) w w')
  (hG':∀ i,F i→¬ G' i) (hbd:∀ i,G' i→i<w'.heap.size) {A:Option Addr} {n k:Nat} {ms:List (MR×List (LE×List Int))} (hm:MsgsF w' G' (.slice A n k) ms) :
  NCAt w' F G' { c with mA:=A,mn:=n,mc:=k,msgs:=ms }:=by
 have hk:∀ i,F i→i<w.heap.size→i≠b→w'.heap[i]?=w.heap[i]?:=by
  intro i hi hl hne
  refine hc.keep hl ?_
  rintro (e | e)
  ·exact hne e
  ·exact h.dis i hi (h.msgs.inF i e)
 have hcell:∀ (i:Nat) (cur:Array Value) (t:TypeId),w.heap[i]?=some (Obj.cells cur t (0,0))→t≠126→i≠b:=by
  rintro i cur t h1 h2 rfl
  exact h2 (ne_typed h1 hb)
 have hmap:∀ (i:Nat) (es:Array MapEntry) (c:Nat),w.heap[i]?=some (Obj.map es c)→i≠b:=by
  rintro i es c h1 rfl
  rw [hb] at h1;cases h1
 have M:∀ {β:Type} {venc:β→Value} {r l},MapF venc w F r l→MapF venc w' F r l:=fun h=>h.keepT fun i hi ⟨es,c,h1⟩=>hk i hi (block_lt h1) (hmap i es c h1)
 refine ⟨fun i hi=>Nat.lt_of_lt_of_le (h.bdF i hi) hc.size,hbd,hG',h.peers.same fun k e=>?_,h.peersF,h.log.keepT fun i hi ⟨cur,t,h1,h2⟩=>hk i hi (block_lt h1) (hcell i cur t h1 (by rcases h2 with rfl | rfl <;> decide)),M h.mt,M h.nx,M h.hd,M h.gr,M h.rf,M h.sn,hm,h.apart⟩
 obtain ⟨cur,h1⟩:=h.peers.typed k e
 exact hk k (h.peersF k e) (block_lt h1) (hcell k cur 3 h1 (by decide))
theorem send_post {W1 W2 W3:World} {F G E:Nat→Prop} {b:Nat} {s:NS} {c:NC} (h:NdAt W1 F G b s c) {m:MR} {qs:List (LE×List Int)} (hE:EntsF W1 E (.slice m.eA m.en m.ec) qs) (hEF:∀ i,E i→¬ F i) (hEl:∀ i,E i→i<W1.heap.size)
  (hb2:Below W1.heap.size W1 W2) (hg:W2.grownBy W3 (Value.slice c.mA c.mn c.mc).ownBlock) {A:Option Addr} {n k:Nat} (hown:Own encM 10 59 W3 0 (.slice A n k) (c.msgs.map (·.1)++[m]))
  (hat:(Value.slice A n k).ownBlock=(Value.slice c.mA c.mn c.mc).ownBlock∨(Value.slice A n k).ownBlock=some W2.heap.size) (hB:W3.heap[b]?=some (.cells (ncells s c) 126 (0,0))) :
  NdAt (W3.setCell ⟨b,24,none⟩ (.slice A n k)) F (fun i=>G i∨E i∨(W1.heap.size≤i∧i<W3.heap.size)) b s { c with mA:=A,mn:=n,mc:=k,msgs:=c.msgs++[(m,qs)] }∧Chg (fun i=>i=b∨G i) W1 (W3.setCell ⟨b,24,none⟩ (.slice A n k)):=by
 have hz2:=hb2.size
 have hz3:=hg.size
 have hr:=h.rest
 have hch:Chg (fun i=>i=b∨(Value.slice c.mA c.mn c.mc).ownBlock=some i) W1 (W3.setCell ⟨b,24,none⟩ (.slice A n k)) :=
  Chg.setCell (Chg.grown (b:=W2) (Chg.ofBelow hb2) hg (fun j hj=>.inl (.inr hj))) (.inl (.inl rfl)) _
 have hrowG:∀ i,(Value.slice c.mA c.mn c.mc).ownBlock=some i→G i:=hr.msgs.inF
 have hbd3:∀ i,(Value.slice A n k).ownBlock=some i→i<W3.heap.size:=fun i e=>(hown.lt i e).2
 have hne:∀ i,(Value.slice A n k).ownBlock=some i→b≠i:=by
  rintro i e rfl
  obtain ⟨cur,ht⟩:=hown.typed b e
  exact absurd (ne_typed ht hB) (by decide)
 have hsame:∀ i,i≠b→(W3.setCell ⟨b,24,none⟩ (.slice A n k)).heap[i]?=W3.heap[i]?:=fun i hi=>Below.heap_setCell _ _ _ _ hi
 have hsz:(W3.setCell ⟨b,24,none⟩ (.slice A n k)).heap.size=W3.heap.size:=by simp [World.setCell]
 refine ⟨⟨block_setCell (o:=24) hB _,h.hb,NCAt.remsg2 hr h.blk hch (fun i hf hi=>?_) (fun i hi=>?_) ?_⟩,hch.mono fun i hi=>?_⟩
 ·rcases hi with hi | hi | hi
  ·exact hr.dis i hf hi
  ·exact hEF i hi hf
  ·have:=hr.bdF i hf;omega
 ·rw [hsz]
  rcases hi with hi | hi | hi
  ·have:=hr.bdG i hi;omega
  ·have:=hEl i hi;omega
  ·exact hi.2
 ·refine ⟨?_,fun i e=>?_,fun q hq=>?_⟩
  ·rw [List.map_append]
   exact hown.same fun i e=>hsame i (hne i e).symm
  ·have h4:=hbd3 i e
   rcases hat with hat | hat
   ·exact .inl (hrowG i (hat▸e))
   ·rw [hat] at e;injection e with e;subst e
    exact .inr (.inr ⟨by omega,h4⟩)
  ·rcases List.mem_append.1 hq with hq | hq
   ·refine ((hr.msgs.each q hq).keepT fun i hi ⟨cur,t,h1,h2⟩=>hch.keep (block_lt h1) ?_).mono fun i hi _=>.inl hi
    rintro (rfl | e)
    ·exact absurd (ne_typed h1 h.blk) (by rcases h2 with rfl | rfl <;> decide)
    ·obtain ⟨c2,h3⟩:=hr.msgs.own.typed i e
     exact absurd (ne_typed h1 h3) (by rcases h2 with rfl | rfl <;> decide)
   ·obtain rfl:=List.mem_singleton.1 hq
    refine (hE.keepT fun i hi ⟨cur,t,h1,h2⟩=>hch.keep (block_lt h1) ?_).mono fun i hi _=>.inr (.inl hi)
    rintro (rfl | e)
    ·exact absurd (ne_typed h1 h.blk) (by rcases h2 with rfl | rfl <;> decide)
    ·obtain ⟨c2,h3⟩:=hr.msgs.own.typed i e
     exact absurd (ne_typed h1 h3) (by rcases h2 with rfl | rfl <;> decide)
 ·rcases hi with hi | hi
  ·exact .inl (.inl hi)
  ·exact .inl (.inr (hrowG i hi))
theorem below_one (w:World) (o:Obj):Below w.heap.size w (w.alloc o):=(Below.refl _ _).alloc (Nat.le_refl _) _
def msgCells (m:MR):Array Value:=#[.int .i64 m.kind,.int .i64 m.from_,.int .i64 m.to_,.int .i64 m.term,.int .i64 m.idx,.int .i64 m.lt,.int .i64 m.commit,.slice m.eA m.en m.ec,.bool m.rej,.int .i64 m.hint]
def msgV (m:MR):Value:=.agg (msgCells m)
theorem cells10 {w:World} {b:Nat} {m:MR} (h:w.heap[b]?=some (.cells (msgCells m) 59 (0,0))) :
  w.cell? ⟨b,0,none⟩=some (.int .i64 m.kind)∧w.cell? ⟨b,1,none⟩=some (.int .i64 m.from_)∧w.cell? ⟨b,2,none⟩=some (.int .i64 m.to_)∧w.cell? ⟨b,3,none⟩=some (.int .i64 m.term)∧w.cell? ⟨b,4,none⟩=some (.int .i64 m.idx)∧w.cell? ⟨b,5,none⟩=some (.int .i64 m.lt)∧w.cell? ⟨b,6,none⟩=some (.int .i64 m.commit)∧w.cell? ⟨b,7,none⟩=some (.slice m.eA m.en m.ec)∧w.cell? ⟨b,8,none⟩=some (.bool m.rej)∧w.cell? ⟨b,9,none⟩=some (.int .i64 m.hint) :=
 ⟨cell_block h 0 _ rfl,cell_block h 1 _ rfl,cell_block h 2 _ rfl,cell_block h 3 _ rfl,cell_block h 4 _ rfl,cell_block h 5 _ rfl,cell_block h 6 _ rfl,cell_block h 7 _ rfl,cell_block h 8 _ rfl,cell_block h 9 _ rfl⟩
set_option maxRecDepth 100000 in
set_option maxHeartbeats 2000000 in
theorem send_any (b:Nat) (s:NS) (c:NC) (F G E:Nat→Prop) (w:World) (h:NdAt w F G b s c) (dst:Int) (m:MR) (qs:List (LE×List Int)) (hE:EntsF w E (.slice m.eA m.en m.ec) qs) (hEF:∀ i,E i→¬ F i) (hEl:∀ i,E i→i<w.heap.size) (hml:c.msgs.length≤1000) :
  Calls Tryz.prog 138 #[.pointer (some ⟨b,0,none⟩),.int .i64 dst,msgV m] w fun e w'=>e=.returned (.tuple #[])∧∃ G' c',NdAt w' F G' b s c'∧c'.msgs=c.msgs++[(m.sent s.id dst s.term,qs)]∧c'={ c with mA:=c'.mA,mn:=c'.mn,mc:=c'.mc,msgs:=c'.msgs } ∧
   Chg (fun i=>i=b∨G i) w w'∧(∀ i,G i→G' i)∧(∀ i,G' i→G i∨E i∨w.heap.size≤i):=by
 have HH:=ld h
 have hbl:=h.lt
 have hb:=h.blk
 have c0:=nc0 hb
 have c6:=nc6 hb
 have hf:=frozen_block hb
 by_cases ht:m.term=0
 ·have htb:(m.term==0)=true:=by simpa using ht
  unfold msgV msgCells
  have hsent:m.sent s.id dst s.term={ m with from_:=s.id,to_:=dst,term:=s.term }:=by unfold MR.sent;rw [if_pos ht]
  have HS:=ld hsent
  clear hsent ht
  go_enter Tryz.func138,Tryz.ntmps138
  go_wp2_with (fail)
  have hx:(w.alloc (.cells (msgCells { m with from_:=s.id,to_:=dst,term:=s.term }) 59)).heap[w.heap.size]?=some (.cells (msgCells { m with from_:=s.id,to_:=dst,term:=s.term }) 59 (0,0)):=World.alloc_at w _
  have hb1:Below w.heap.size w (w.alloc (.cells (msgCells { m with from_:=s.id,to_:=dst,term:=s.term }) 59)):=below_one w _
  have hz1:(w.alloc (.cells (msgCells { m with from_:=s.id,to_:=dst,term:=s.term }) 59)).heap.size=w.heap.size+1:=World.alloc_size ..
  simp only [msgCells] at hx hb1 hz1
  generalize w.alloc (.cells #[.int .i64 m.kind,.int .i64 s.id,.int .i64 dst,.int .i64 s.term,.int .i64 m.idx,.int .i64 m.lt,.int .i64 m.commit,.slice m.eA m.en m.ec,.bool m.rej,.int .i64 m.hint] 59)=W1 at hx hb1 hz1 ⊢
  obtain ⟨z,hz⟩:∃ z,z=w.heap.size:=⟨_,rfl⟩
  rw [←hz] at hx hz1 ⊢
  have HN1:=ld (h.below hb1)
  have HX:=ld hx
  have HZ:=ld hz
  have hbz:b<z:=by omega
  have c24:=nc24 HN1.out.blk
  have hfz:=frozen_block HN1.out.blk
  have HB1:=ld hb1
  have HM:=ld (show c.msgs.length≤1000 from hml)
  have HOWN:=ld (show ∀ W2,Below W1.heap.size W1 W2→Own encM 10 59 W2 0 (.slice c.mA c.mn c.mc) (c.msgs.map (·.1)) from fun W2 hb=>HN1.out.rest.msgs.own.same fun k e=>hb.block k (HN1.out.rest.msgs.own.lt k e).2)
  have HNE:=ld (show some b≠(Value.slice c.mA c.mn c.mc).ownBlock∧some z≠(Value.slice c.mA c.mn c.mc).ownBlock from ⟨fun e=>by
   obtain ⟨cur,ht⟩:=HH.out.rest.msgs.own.typed b e.symm
   exact absurd (ne_typed ht HH.out.blk) (by decide),fun e=>by have:=(HH.out.rest.msgs.own.lt z e.symm).2;omega⟩)
  have HLB:=ld (show b<(W1.alloc (.cells #[.int .i64 m.kind,.int .i64 s.id,.int .i64 dst,.int .i64 s.term,.int .i64 m.idx,.int .i64 m.lt,.int .i64 m.commit,.slice m.eA m.en m.ec,.bool m.rej,.int .i64 m.hint] 59)).drew.heap.size∧z<(W1.alloc (.cells #[.int .i64 m.kind,.int .i64 s.id,.int .i64 dst,.int .i64 s.term,.int .i64 m.idx,.int .i64 m.lt,.int .i64 m.commit,.slice m.eA m.en m.ec,.bool m.rej,.int .i64 m.hint] 59)).drew.heap.size from ⟨by show b<(W1.alloc _).heap.size;rw [World.alloc_size];omega,by show z<(W1.alloc _).heap.size;rw [World.alloc_size];omega⟩)
  have hzb:z≠b:=by omega
  have hb1l:b<W1.heap.size:=by omega
  have HSZ:Hid (∀ W:World,W.heap[z]?=some (.cells (msgCells { m with from_:=s.id,to_:=dst,term:=s.term }) 59 (0,0))→(fun W:World=>W.cell? ⟨z,0,none⟩=some (.int .i64 m.kind)∧W.cell? ⟨z,1,none⟩=some (.int .i64 s.id)∧W.cell? ⟨z,2,none⟩=some (.int .i64 dst)∧W.cell? ⟨z,3,none⟩=some (.int .i64 s.term)∧W.cell? ⟨z,4,none⟩=some (.int .i64 m.idx)∧W.cell? ⟨z,5,none⟩=some (.int .i64 m.lt)∧W.cell? ⟨z,6,none⟩=some (.int .i64 m.commit)∧W.cell? ⟨z,7,none⟩=some (.slice m.eA m.en m.ec)∧W.cell? ⟨z,8,none⟩=some (.bool m.rej)∧W.cell? ⟨z,9,none⟩=some (.int .i64 m.hint)) W):=ld fun W hW=>cells10 hW
  clear h hb c0 c6 hf hx hz hz1 hb1 hbl hml htb
  refine wp_region_held_drew (S:=(fun W:World=>W.cell? ⟨z,0,none⟩=some (.int .i64 m.kind)∧W.cell? ⟨z,1,none⟩=some (.int .i64 s.id)∧W.cell? ⟨z,2,none⟩=some (.int .i64 dst)∧W.cell? ⟨z,3,none⟩=some (.int .i64 s.term)∧W.cell? ⟨z,4,none⟩=some (.int .i64 m.idx)∧W.cell? ⟨z,5,none⟩=some (.int .i64 m.lt)∧W.cell? ⟨z,6,none⟩=some (.int .i64 m.commit)∧W.cell? ⟨z,7,none⟩=some (.slice m.eA m.en m.ec)∧W.cell? ⟨z,8,none⟩=some (.bool m.rej)∧W.cell? ⟨z,9,none⟩=some (.int .i64 m.hint))) (by kernel_rfl) (HSZ.out W1.drew HX.out) (fun hHeld=>?_)
  refine tks 0 (.pointer (some ⟨b,0,none⟩)) ?_
  refine tks 1 (.pointer (some ⟨b,0,none⟩)) ?_
  refine tks 2 (.pointer (some ⟨b,0,none⟩)) ?_
  refine tks 3 (.pointer (some ⟨b,24,none⟩)) ?_
  refine tk 5 (.agg #[.int .i64 m.kind,.int .i64 s.id,.int .i64 dst,.int .i64 s.term,.int .i64 m.idx,.int .i64 m.lt,.int .i64 m.commit,.slice m.eA m.en m.ec,.bool m.rej,.int .i64 m.hint]) ?_ ?_
  ·intro w hSw;obtain ⟨s0,s1,s2,s3,s4,s5,s6,s7,s8,s9⟩:=hSw;go_simp
  refine wpAnyH_ready (rs:=[4,6]) (by kernel_rfl) (by simp) ?_
  refine AllReadyH.cons rfl (fun K hK=>?_) (AllReadyH.cons rfl (fun K hK=>?_) AllReadyH.nil)
  ·
   go_simp
   refine hks hK ?_ fun hHeld=>?_
   ·exact HSZ.out _ HX.out
   clear hK K
   refine rdy 6 fun K hK=>?_
   go_simp
   refine hks hK ?_ fun hHeld=>?_
   ·exact HSZ.out _ (block_alloc HX.out _)
   clear hK K
   refine rdy 7 fun K hK=>?_
   refine step_app _ encM 10 (by rfl) _ _ 38 (by rfl) 0 59 96 Tryz.underlying38 info59 (by omega) len_M one_M (.slice c.mA c.mn c.mc) (c.msgs.map (·.1)) (by rfl) (HOWN.out _ (below_one W1 _).drew) _ _ 1 1 [{ m with from_:=s.id,to_:=dst,term:=s.term }] rfl (by rfl) (row_one (World.alloc_at _ _) (Nat.lt_succ_self _)) (by simp;have:=HM.out;omega) (by simp;have:=HM.out;omega) (Nat.zero_le _) ?_
   intro v3 W3 hown3 hg3 hat3 _
   obtain ⟨A3,k3,hv3⟩:=hown3.form
   simp only [List.length_append,List.length_map,List.length_cons,List.length_nil,Nat.zero_add] at hv3
   subst hv3
   have HB3:=ld ((hg3.block b HLB.out.1 HNE.out.1).trans (block_alloc HN1.out.blk _))
   have HZ3:=ld ((hg3.block z HLB.out.2 HNE.out.2).trans (block_alloc HX.out _))
   refine hks hK ?_ fun hHeld=>?_
   ·exact HSZ.out _ HZ3.out
   clear hK K
   refine tks 8 (.pointer (some ⟨b,0,none⟩)) ?_
   refine tks 9 (.pointer (some ⟨b,24,none⟩)) ?_
   have hf3:=frozen_block HB3.out
   have c24:=nc24 HB3.out
   refine rdy 10 fun K hK=>?_
   go_simp
   refine hks hK ?_ fun hHeld=>?_
   ·exact HSZ.out _ ((Below.heap_setCell _ _ _ _ hzb).trans HZ3.out)
   clear hK K
   refine don ?_
   go_wp2_with fail
   go_end0
   have hp:=send_post (m:={ m with from_:=s.id,to_:=dst,term:=s.term }) (qs:=qs) HN1.out (hE.below HB1.out) hEF (fun i hi=>Nat.lt_of_lt_of_le (hEl i hi) HB1.out.size) (below_one W1 (.cells #[.int .i64 m.kind,.int .i64 s.id,.int .i64 dst,.int .i64 s.term,.int .i64 m.idx,.int .i64 m.lt,.int .i64 m.commit,.slice m.eA m.en m.ec,.bool m.rej,.int .i64 m.hint] 59)).drew hg3 hown3 hat3 HB3.out
   refine ⟨rfl,_,_,hp.1,by rw [HS.out],rfl,?_,fun i hi=>Or.inl hi,fun i hi=>?_⟩
   ·exact ((Chg.ofBelow HB1.out).trans hp.2)
   ·rcases hi with hi | hi | hi
    ·exact .inl hi
    ·exact .inr (.inl hi)
    ·right;right;have:=HB1.out.size;omega
  ·
   go_simp
   refine hks hK ?_ fun hHeld=>?_
   ·exact HSZ.out _ (block_alloc HX.out _)
   clear hK K
   refine rdy 4 fun K hK=>?_
   go_simp
   refine hks hK ?_ fun hHeld=>?_
   ·exact HSZ.out _ (block_alloc HX.out _)
   clear hK K
   refine rdy 7 fun K hK=>?_
   refine step_app _ encM 10 (by rfl) _ _ 38 (by rfl) 0 59 96 Tryz.underlying38 info59 (by omega) len_M one_M (.slice c.mA c.mn c.mc) (c.msgs.map (·.1)) (by rfl) (HOWN.out _ (below_one W1 _).drew) _ _ 1 1 [{ m with from_:=s.id,to_:=dst,term:=s.term }] rfl (by rfl) (row_one (World.alloc_at _ _) (Nat.lt_succ_self _)) (by simp;have:=HM.out;omega) (by simp;have:=HM.out;omega) (Nat.zero_le _) ?_
   intro v3 W3 hown3 hg3 hat3 _
   obtain ⟨A3,k3,hv3⟩:=hown3.form
   simp only [List.length_append,List.length_map,List.length_cons,List.length_nil,Nat.zero_add] at hv3
   subst hv3
   have HB3:=ld ((hg3.block b HLB.out.1 HNE.out.1).trans (block_alloc HN1.out.blk _))
   have HZ3:=ld ((hg3.block z HLB.out.2 HNE.out.2).trans (block_alloc HX.out _))
   refine hks hK ?_ fun hHeld=>?_
   ·exact HSZ.out _ HZ3.out
   clear hK K
   refine tks 8 (.pointer (some ⟨b,0,none⟩)) ?_
   refine tks 9 (.pointer (some ⟨b,24,none⟩)) ?_
   have hf3:=frozen_block HB3.out
   have c24:=nc24 HB3.out
   refine rdy 10 fun K hK=>?_
   go_simp
   refine hks hK ?_ fun hHeld=>?_
   ·exact HSZ.out _ ((Below.heap_setCell _ _ _ _ hzb).trans HZ3.out)
   clear hK K
   refine don ?_
   go_wp2_with fail
   go_end0
   have hp:=send_post (m:={ m with from_:=s.id,to_:=dst,term:=s.term }) (qs:=qs) HN1.out (hE.below HB1.out) hEF (fun i hi=>Nat.lt_of_lt_of_le (hEl i hi) HB1.out.size) (below_one W1 (.cells #[.int .i64 m.kind,.int .i64 s.id,.int .i64 dst,.int .i64 s.term,.int .i64 m.idx,.int .i64 m.lt,.int .i64 m.commit,.slice m.eA m.en m.ec,.bool m.rej,.int .i64 m.hint] 59)).drew hg3 hown3 hat3 HB3.out
   refine ⟨rfl,_,_,hp.1,by rw [HS.out],rfl,?_,fun i hi=>Or.inl hi,fun i hi=>?_⟩
   ·exact ((Chg.ofBelow HB1.out).trans hp.2)
   ·rcases hi with hi | hi | hi
    ·exact .inl hi
    ·exact .inr (.inl hi)
    ·right;right;have:=HB1.out.size;omega
 ·have htb:(m.term==0)=false:=by simpa using ht
  unfold msgV msgCells
  have hsent:m.sent s.id dst s.term={ m with from_:=s.id,to_:=dst,term:=m.term }:=by unfold MR.sent;rw [if_neg ht]
  have HS:=ld hsent
  clear hsent ht
  go_enter Tryz.func138,Tryz.ntmps138
  go_wp2_with (fail)
  have hx:(w.alloc (.cells (msgCells { m with from_:=s.id,to_:=dst,term:=m.term }) 59)).heap[w.heap.size]?=some (.cells (msgCells { m with from_:=s.id,to_:=dst,term:=m.term }) 59 (0,0)):=World.alloc_at w _
  have hb1:Below w.heap.size w (w.alloc (.cells (msgCells { m with from_:=s.id,to_:=dst,term:=m.term }) 59)):=below_one w _
  have hz1:(w.alloc (.cells (msgCells { m with from_:=s.id,to_:=dst,term:=m.term }) 59)).heap.size=w.heap.size+1:=World.alloc_size ..
  simp only [msgCells] at hx hb1 hz1
  generalize w.alloc (.cells #[.int .i64 m.kind,.int .i64 s.id,.int .i64 dst,.int .i64 m.term,.int .i64 m.idx,.int .i64 m.lt,.int .i64 m.commit,.slice m.eA m.en m.ec,.bool m.rej,.int .i64 m.hint] 59)=W1 at hx hb1 hz1 ⊢
  obtain ⟨z,hz⟩:∃ z,z=w.heap.size:=⟨_,rfl⟩
  rw [←hz] at hx hz1 ⊢
  have HN1:=ld (h.below hb1)
  have HX:=ld hx
  have HZ:=ld hz
  have hbz:b<z:=by omega
  have c24:=nc24 HN1.out.blk
  have hfz:=frozen_block HN1.out.blk
  have HB1:=ld hb1
  have HM:=ld (show c.msgs.length≤1000 from hml)
  have HOWN:=ld (show ∀ W2,Below W1.heap.size W1 W2→Own encM 10 59 W2 0 (.slice c.mA c.mn c.mc) (c.msgs.map (·.1)) from fun W2 hb=>HN1.out.rest.msgs.own.same fun k e=>hb.block k (HN1.out.rest.msgs.own.lt k e).2)
  have HNE:=ld (show some b≠(Value.slice c.mA c.mn c.mc).ownBlock∧some z≠(Value.slice c.mA c.mn c.mc).ownBlock from ⟨fun e=>by
   obtain ⟨cur,ht⟩:=HH.out.rest.msgs.own.typed b e.symm
   exact absurd (ne_typed ht HH.out.blk) (by decide),fun e=>by have:=(HH.out.rest.msgs.own.lt z e.symm).2;omega⟩)
  have HLB:=ld (show b<(W1.alloc (.cells #[.int .i64 m.kind,.int .i64 s.id,.int .i64 dst,.int .i64 m.term,.int .i64 m.idx,.int .i64 m.lt,.int .i64 m.commit,.slice m.eA m.en m.ec,.bool m.rej,.int .i64 m.hint] 59)).drew.heap.size∧z<(W1.alloc (.cells #[.int .i64 m.kind,.int .i64 s.id,.int .i64 dst,.int .i64 m.term,.int .i64 m.idx,.int .i64 m.lt,.int .i64 m.commit,.slice m.eA m.en m.ec,.bool m.rej,.int .i64 m.hint] 59)).drew.heap.size from ⟨by show b<(W1.alloc _).heap.size;rw [World.alloc_size];omega,by show z<(W1.alloc _).heap.size;rw [World.alloc_size];omega⟩)
  have hzb:z≠b:=by omega
  have hb1l:b<W1.heap.size:=by omega
  have HSZ:Hid (∀ W:World,W.heap[z]?=some (.cells (msgCells { m with from_:=s.id,to_:=dst,term:=m.term }) 59 (0,0))→(fun W:World=>W.cell? ⟨z,0,none⟩=some (.int .i64 m.kind)∧W.cell? ⟨z,1,none⟩=some (.int .i64 s.id)∧W.cell? ⟨z,2,none⟩=some (.int .i64 dst)∧W.cell? ⟨z,3,none⟩=some (.int .i64 m.term)∧W.cell? ⟨z,4,none⟩=some (.int .i64 m.idx)∧W.cell? ⟨z,5,none⟩=some (.int .i64 m.lt)∧W.cell? ⟨z,6,none⟩=some (.int .i64 m.commit)∧W.cell? ⟨z,7,none⟩=some (.slice m.eA m.en m.ec)∧W.cell? ⟨z,8,none⟩=some (.bool m.rej)∧W.cell? ⟨z,9,none⟩=some (.int .i64 m.hint)) W):=ld fun W hW=>cells10 hW
  clear h hb c0 c6 hf hx hz hz1 hb1 hbl hml htb
  refine wp_region_held_drew (S:=(fun W:World=>W.cell? ⟨z,0,none⟩=some (.int .i64 m.kind)∧W.cell? ⟨z,1,none⟩=some (.int .i64 s.id)∧W.cell? ⟨z,2,none⟩=some (.int .i64 dst)∧W.cell? ⟨z,3,none⟩=some (.int .i64 m.term)∧W.cell? ⟨z,4,none⟩=some (.int .i64 m.idx)∧W.cell? ⟨z,5,none⟩=some (.int .i64 m.lt)∧W.cell? ⟨z,6,none⟩=some (.int .i64 m.commit)∧W.cell? ⟨z,7,none⟩=some (.slice m.eA m.en m.ec)∧W.cell? ⟨z,8,none⟩=some (.bool m.rej)∧W.cell? ⟨z,9,none⟩=some (.int .i64 m.hint))) (by kernel_rfl) (HSZ.out W1.drew HX.out) (fun hHeld=>?_)
  refine tks 0 (.pointer (some ⟨b,0,none⟩)) ?_
  refine tks 1 (.pointer (some ⟨b,0,none⟩)) ?_
  refine tks 2 (.pointer (some ⟨b,0,none⟩)) ?_
  refine tks 3 (.pointer (some ⟨b,24,none⟩)) ?_
  refine tk 5 (.agg #[.int .i64 m.kind,.int .i64 s.id,.int .i64 dst,.int .i64 m.term,.int .i64 m.idx,.int .i64 m.lt,.int .i64 m.commit,.slice m.eA m.en m.ec,.bool m.rej,.int .i64 m.hint]) ?_ ?_
  ·intro w hSw;obtain ⟨s0,s1,s2,s3,s4,s5,s6,s7,s8,s9⟩:=hSw;go_simp
  refine wpAnyH_ready (rs:=[4,6]) (by kernel_rfl) (by simp) ?_
  refine AllReadyH.cons rfl (fun K hK=>?_) (AllReadyH.cons rfl (fun K hK=>?_) AllReadyH.nil)
  ·
   go_simp
   refine hks hK ?_ fun hHeld=>?_
   ·exact HSZ.out _ HX.out
   clear hK K
   refine rdy 6 fun K hK=>?_
   go_simp
   refine hks hK ?_ fun hHeld=>?_
   ·exact HSZ.out _ (block_alloc HX.out _)
   clear hK K
   refine rdy 7 fun K hK=>?_
   refine step_app _ encM 10 (by rfl) _ _ 38 (by rfl) 0 59 96 Tryz.underlying38 info59 (by omega) len_M one_M (.slice c.mA c.mn c.mc) (c.msgs.map (·.1)) (by rfl) (HOWN.out _ (below_one W1 _).drew) _ _ 1 1 [{ m with from_:=s.id,to_:=dst,term:=m.term }] rfl (by rfl) (row_one (World.alloc_at _ _) (Nat.lt_succ_self _)) (by simp;have:=HM.out;omega) (by simp;have:=HM.out;omega) (Nat.zero_le _) ?_
   intro v3 W3 hown3 hg3 hat3 _
   obtain ⟨A3,k3,hv3⟩:=hown3.form
   simp only [List.length_append,List.length_map,List.length_cons,List.length_nil,Nat.zero_add] at hv3
   subst hv3
   have HB3:=ld ((hg3.block b HLB.out.1 HNE.out.1).trans (block_alloc HN1.out.blk _))
   have HZ3:=ld ((hg3.block z HLB.out.2 HNE.out.2).trans (block_alloc HX.out _))
   refine hks hK ?_ fun hHeld=>?_
   ·exact HSZ.out _ HZ3.out
   clear hK K
   refine tks 8 (.pointer (some ⟨b,0,none⟩)) ?_
   refine tks 9 (.pointer (some ⟨b,24,none⟩)) ?_
   have hf3:=frozen_block HB3.out
   have c24:=nc24 HB3.out
   refine rdy 10 fun K hK=>?_
   go_simp
   refine hks hK ?_ fun hHeld=>?_
   ·exact HSZ.out _ ((Below.heap_setCell _ _ _ _ hzb).trans HZ3.out)
   clear hK K
   refine don ?_
   go_wp2_with fail
   go_end0
   have hp:=send_post (m:={ m with from_:=s.id,to_:=dst,term:=m.term }) (qs:=qs) HN1.out (hE.below HB1.out) hEF (fun i hi=>Nat.lt_of_lt_of_le (hEl i hi) HB1.out.size) (below_one W1 (.cells #[.int .i64 m.kind,.int .i64 s.id,.int .i64 dst,.int .i64 m.term,.int .i64 m.idx,.int .i64 m.lt,.int .i64 m.commit,.slice m.eA m.en m.ec,.bool m.rej,.int .i64 m.hint] 59)).drew hg3 hown3 hat3 HB3.out
   refine ⟨rfl,_,_,hp.1,by rw [HS.out],rfl,?_,fun i hi=>Or.inl hi,fun i hi=>?_⟩
   ·exact ((Chg.ofBelow HB1.out).trans hp.2)
   ·rcases hi with hi | hi | hi
    ·exact .inl hi
    ·exact .inr (.inl hi)
    ·right;right;have:=HB1.out.size;omega
  ·
   go_simp
   refine hks hK ?_ fun hHeld=>?_
   ·exact HSZ.out _ (block_alloc HX.out _)
   clear hK K
   refine rdy 4 fun K hK=>?_
   go_simp
   refine hks hK ?_ fun hHeld=>?_
   ·exact HSZ.out _ (block_alloc HX.out _)
   clear hK K
   refine rdy 7 fun K hK=>?_
   refine step_app _ encM 10 (by rfl) _ _ 38 (by rfl) 0 59 96 Tryz.underlying38 info59 (by omega) len_M one_M (.slice c.mA c.mn c.mc) (c.msgs.map (·.1)) (by rfl) (HOWN.out _ (below_one W1 _).drew) _ _ 1 1 [{ m with from_:=s.id,to_:=dst,term:=m.term }] rfl (by rfl) (row_one (World.alloc_at _ _) (Nat.lt_succ_self _)) (by simp;have:=HM.out;omega) (by simp;have:=HM.out;omega) (Nat.zero_le _) ?_
   intro v3 W3 hown3 hg3 hat3 _
   obtain ⟨A3,k3,hv3⟩:=hown3.form
   simp only [List.length_append,List.length_map,List.length_cons,List.length_nil,Nat.zero_add] at hv3
   subst hv3
   have HB3:=ld ((hg3.block b HLB.out.1 HNE.out.1).trans (block_alloc HN1.out.blk _))
   have HZ3:=ld ((hg3.block z HLB.out.2 HNE.out.2).trans (block_alloc HX.out _))
   refine hks hK ?_ fun hHeld=>?_
   ·exact HSZ.out _ HZ3.out
   clear hK K
   refine tks 8 (.pointer (some ⟨b,0,none⟩)) ?_
   refine tks 9 (.pointer (some ⟨b,24,none⟩)) ?_
   have hf3:=frozen_block HB3.out
   have c24:=nc24 HB3.out
   refine rdy 10 fun K hK=>?_
   go_simp
   refine hks hK ?_ fun hHeld=>?_
   ·exact HSZ.out _ ((Below.heap_setCell _ _ _ _ hzb).trans HZ3.out)
   clear hK K
   refine don ?_
   go_wp2_with fail
   go_end0
   have hp:=send_post (m:={ m with from_:=s.id,to_:=dst,term:=m.term }) (qs:=qs) HN1.out (hE.below HB1.out) hEF (fun i hi=>Nat.lt_of_lt_of_le (hEl i hi) HB1.out.size) (below_one W1 (.cells #[.int .i64 m.kind,.int .i64 s.id,.int .i64 dst,.int .i64 m.term,.int .i64 m.idx,.int .i64 m.lt,.int .i64 m.commit,.slice m.eA m.en m.ec,.bool m.rej,.int .i64 m.hint] 59)).drew hg3 hown3 hat3 HB3.out
   refine ⟨rfl,_,_,hp.1,by rw [HS.out],rfl,?_,fun i hi=>Or.inl hi,fun i hi=>?_⟩
   ·exact ((Chg.ofBelow HB1.out).trans hp.2)
   ·rcases hi with hi | hi | hi
    ·exact .inl hi
    ·exact .inr (.inl hi)
    ·right;right;have:=HB1.out.size;omega
end Go.Proofs.YtocogcgnahbpkaaGreat
