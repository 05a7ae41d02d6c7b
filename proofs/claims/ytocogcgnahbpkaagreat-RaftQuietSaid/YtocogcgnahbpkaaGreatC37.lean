import Derived.Test.YtocogcgnahbpkaaGreatC12
import Derived.Test.YtocogcgnahbpkaaGreatC36
namespace Go.Proofs.YtocogcgnahbpkaaGreat
open Go.RowKit
structure StepR (w w':World) (F F' SR:Nat→Prop) (bn:Nat) (cf:Rf.Cfg) (p p':Rf.Nd) (ms:List Rf.Msg) (k:Nat) (wr:Bool) (eA:Option Addr) (en ec:Nat) (mA:Option Addr) (mn mc:Nat):Prop where
 idle:IdleAt w' F' bn cf p'
 rdy:Rdy w' SR p p' ms k wr eA en ec mA mn mc
 chg:Chg F w w'
 sub:∀ i,F i→F' i
 sub':∀ i,F' i→F i∨w.heap.size≤i
 fresh:∀ i,SR i→w.heap.size≤i∧i<w'.heap.size∧¬ F' i
section
variable {w w1 w' w'':World} {F F' SR:Nat→Prop} {bn:Nat} {cf:Rf.Cfg} {p p':Rf.Nd} {ms:List Rf.Msg} {k:Nat} {wr:Bool} {eA:Option Addr} {en ec:Nat} {mA:Option Addr} {mn mc:Nat}
theorem Rdy.keep (h:Rdy w SR p p' ms k wr eA en ec mA mn mc) (hk:∀ i,SR i→w'.heap[i]?=w.heap[i]?):Rdy w' SR p p' ms k wr eA en ec mA mn mc:=by
 obtain ⟨⟨qs,h1,h2⟩,⟨mqs,h3,h4⟩,h5,h6,h7⟩:=h
 exact ⟨⟨qs,h1.keep hk,h2⟩,⟨mqs,h3.keep hk,h4⟩,h5,h6,h7⟩
theorem StepR.then (h:StepR w w' F F' SR bn cf p p' ms k wr eA en ec mA mn mc) (hk:∀ i,F' i∨SR i→i<w'.heap.size→w''.heap[i]?=w'.heap[i]?) (hsz:w'.heap.size≤w''.heap.size) (hc:Chg F w w''):StepR w w'' F F' SR bn cf p p' ms k wr eA en ec mA mn mc :=
 ⟨h.idle.keep hsz fun i hi hl=>hk i (.inl hi) hl,h.rdy.keep fun i hi=>hk i (.inr hi) (h.fresh i hi).2.1,hc,h.sub,h.sub',fun i hi=>⟨(h.fresh i hi).1,Nat.lt_of_lt_of_le (h.fresh i hi).2.1 hsz,(h.fresh i hi).2.2⟩⟩
theorem StepR.from (h:StepR w1 w' F F' SR bn cf p p' ms k wr eA en ec mA mn mc) (hb:Below w.heap.size w w1):StepR w w' F F' SR bn cf p p' ms k wr eA en ec mA mn mc :=
 ⟨h.idle,h.rdy,(Chg.ofBelow hb).trans h.chg,h.sub,fun i hi=>(h.sub' i hi).imp_right (fun h1=>Nat.le_trans hb.size h1),fun i hi=>⟨Nat.le_trans hb.size (h.fresh i hi).1,(h.fresh i hi).2⟩⟩
end
theorem chg12v (w:World) (y:Nat) (v0 v1 v2 v3 v4 v5 v6 v7 v8 v9 v10 v11:Value):Chg (·=y) w ((((((((((((w.setCell ⟨y,0,none⟩ v0).setCell ⟨y,1,none⟩ v1).setCell ⟨y,2,none⟩ v2).setCell ⟨y,3,none⟩ v3).setCell ⟨y,4,none⟩ v4).setCell ⟨y,5,none⟩ v5).setCell ⟨y,6,none⟩ v6).setCell ⟨y,7,none⟩ v7).setCell ⟨y,8,none⟩ v8).setCell ⟨y,9,none⟩ v9).setCell ⟨y,10,none⟩ v10).setCell ⟨y,11,none⟩ v11):=chg1 (chg1 (chg1 (chg1 (chg1 (chg1 (chg1 (chg1 (chg1 (chg1 (chg1 (chg1 Chg.refl _) _) _) _) _) _) _) _) _) _) _) _
structure StepV (w w':World) (S S' F F':Nat→Prop) (bw:Nat) (bs:List Nat) (g g':VG) (sg:Nat→SG) (net net':List (MR×List (LE×List Int))) (i:Nat) (x x':SG) (bn:Nat) (cf:Rf.Cfg) (p':Rf.Nd) (ms:List Rf.Msg) (KO:Nat→E→Int→Prop) (VO:Int×Int→Int→Prop) (LO:Int→Int→Prop) (h h':Nat):Prop where
 at_:VAt w' S' bw bs g' (setS sg (i+1) x') net'
 idle:IdleAt w' F' bn cf p'
 chg:Chg (fun j=>F j∨g.mut bw bs j) w w'
 sub:∀ j,S j→S' j
 sub':∀ j,S' j→S j∨w.heap.size≤j
 mu:∀ j,g'.mut bw bs j→g.mut bw bs j∨w.heap.size≤j
 fsub:∀ j,F j→F' j
 fsub':∀ j,F' j→F j∨w.heap.size≤j
 apart:∀ j,F' j→¬ S' j∧¬ g'.mut bw bs j
 seat:x'.id=x.id∧x'.bn=x.bn∧x'.t=p'.term∧x'.v=p'.vote∧x'.cm=p'.commit∧x'.ro=p'.role∧x'.le=p'.leader∧x'.dl.map con=numb 0 p'.log
 same:g'.n=g.n∧g'.L=g.L∧g'.Mo=g.Mo∧g'.Bt=g.Bt∧g'.Ba=g.Ba∧g'.calm=g.calm∧g'.sA=g.sA∧g'.sc=g.sc
 net:net'.map pmOf=capd g.calm (net.map pmOf++ms.map pmR)
 inv:TInv KO VO LO g' h'
 hh:h≤h'∧p'.commit≤h'
set_option maxRecDepth 100000 in
set_option maxHeartbeats 20000000 in
theorem wstep_ok (bw b i:Nat) (bs:List Nat) (g:VG) (sg:Nat→SG) (net:List (MR×List (LE×List Int))) (S F:Nat→Prop) (x:SG) (bn:Nat) (cf:Rf.Cfg) (p p':Rf.Nd) (ms:List Rf.Msg) (kind draw:Int) (m0 m1 m2 m3 m4 m5 m6 m7 m8 m9 k12 k13 k14 k15:Value) (w:World)
  (ha:VAt w S bw bs g sg net) (hbi:bs[i]?=some b) (hx:sg (i+1)=x) (hbn:x.bn=bn) (hN:IdleAt w F bn cf p) (hFS:∀ j,F j→¬ S j∧¬ g.mut bw bs j)
  (hstep:∀ W,Below w.heap.size w W→IdleAt W F bn cf p→Calls Tryz.prog 32 #[.pointer (some ⟨bn,0,none⟩),.agg #[.int .i64 kind,.int .i64 draw,m0,m1,m2,m3,m4,m5,m6,m7,m8,m9,k12,k13,k14,k15]] W fun e w'=>∃ (F' SR:Nat→Prop) (k:Nat) (wr:Bool) (eA:Option Addr) (en ec:Nat) (mA:Option Addr) (mn mc:Nat) (sA:Option Addr) (sn sc:Nat) (fi la:Int),e=.returned (.tuple #[.agg #[.int .i64 p'.term,.int .i64 p'.vote,.bool wr,.int .i64 ((k:Int)+1),.slice eA en ec,.slice mA mn mc,.int .i64 p'.commit,.slice sA sn sc,.int .i64 p'.role,.int .i64 p'.leader,.int .i64 fi,.int .i64 la],.int .i64 0])∧StepR W w' F F' SR bn cf p p' ms k wr eA en ec mA mn mc)
  (KO:Nat→E→Int→Prop) (VO:Int×Int→Int→Prop) (LO:Int→Int→Prop) (h:Nat) (hk:TInv KO VO LO g h) (hkind:kind=1∨kind=2∨kind=3∨kind=7) (hid:x.id=((i+1:Nat):Int))
  (hseat:x.t=p.term∧x.v=p.vote∧x.cm=p.commit∧x.ro=p.role∧x.le=p.leader∧x.dl.map con=numb 0 p.log) (hterm:p.term≤p'.term) (hvote:p'.term=p.term→p.vote≠0→p'.vote=p.vote)
  (hv:p'.vote≠0→VO (((i+1:Nat):Int),p'.term) p'.vote∧∀ y,VO (((i+1:Nat):Int),p'.term) y→y=p'.vote) (hl:p'.role=4→p'.leader=i+1∧LO p'.term ((i+1:Nat):Int)∧∀ y,LO p'.term y→y=((i+1:Nat):Int))
  (hcp:p'.role=4→p.role≠4→∀ j e τ,KO j e τ→τ<(p'.term:Int)→(numb 0 p'.log)[j]?=some e) (hcc:p.commit≤p'.commit) (hch:p.commit≤h) (hc1:p'.commit≤p'.log.length)
  (hk1:∀ j,j<p'.commit→∀ e τ,KO j e τ→(numb 0 p'.log)[j]?=some e) (hk2:∀ j e,j<p'.commit→(numb 0 p'.log)[j]?=some e→KO j e p'.term) (hin:i≤100) (hlog:p.log.length≤66000∧p'.log.length≤66000) (htm:p'.term≤10000000) (hnl:net.length+ms.length≤1000000000) (hmq:∀ m∈ms,m.es.length≤1000) :
  Calls Tryz.prog 15 #[.pointer (some ⟨bw,0,none⟩),.pointer (some ⟨b,0,none⟩),.agg #[.int .i64 kind,.int .i64 draw,m0,m1,m2,m3,m4,m5,m6,m7,m8,m9,k12,k13,k14,k15]] w fun e w'=>e=.returned (.tuple #[.int .i64 0,.bool true])∧∃ S' F' g' h' x' net',StepV w w' S S' F F' bw bs g g' sg net net' i x x' bn cf p' ms KO VO LO h h':=by
 have HHA:=ld ha
 have HFS:=ld hFS
 have HXI:=ld (And.intro hbi (And.intro hx hbn))
 have HST:=ld hstep
 have HID:=ld hN
 have HSE:=ld hseat
 have HK:=ld hk
 have HV:=ld (show (p'.vote:Int)≠0→_ from fun h0=>hv (by omega))
 have HL:=ld (show (p'.role:Int)=4→(p'.leader:Int)=((i+1:Nat):Int)∧_ from fun h0=>⟨by rw [(hl (by omega)).1],(hl (by omega)).2⟩)
 have HCP:=ld (show (p'.role:Int)=4→x.ro≠4→_ from fun h0 h1=>hcp (by omega) (fun e=>h1 (by rw [hseat.2.2.2.1,e];rfl)))
 have HK1:=ld hk1
 have HK2:=ld hk2
 have HTV:=ld (And.intro hterm hvote)
 have HCC:=ld (And.intro hcc (And.intro hch hc1))
 have HI:=ld (And.intro hid (And.intro (show okI ((i+1:Nat):Int) by unfold okI;omega) hkind))
 have HNL:=ld (And.intro hnl hmq)
 have HTM:=ld (show okI (p'.term:Int) by unfold okI;omega)
 have HLG:=ld hlog
 clear hseat hk hv hl hcp hk1 hk2 hterm hvote hcc hch hc1 hid hkind hnl hmq htm hin hlog
 have hsa:SAt w S b x:=hx▸(ha.seat i b hbi).1
 have HSA:=ld hsa
 have hblk:w.heap[b]?=some (.cells (scellsG x) 52 (0,0)):=hsa.blk
 have d2:=vs2 hblk
 have hlb:=block_lt hblk
 have HBLK:=ld hblk
 clear ha hFS hbi hx hstep hN hblk hsa hbn
 go_enter Tryz.func15,Tryz.ntmps15
 go_upto_region 9 with (fail)
 have hb1:Below w.heap.size w ((w.alloc (.cells #[.int .i64 kind,.int .i64 draw,m0,m1,m2,m3,m4,m5,m6,m7,m8,m9,k12,k13,k14,k15] 61)).alloc (.cells #[.int .i64 0,.int .i64 0,.bool false,.int .i64 0,.slice none 0 0,.slice none 0 0,.int .i64 0,.slice none 0 0,.int .i64 0,.int .i64 0,.int .i64 0,.int .i64 0] 80)):=(below_alloc1 w _).alloc (by simp) _
 have he1:((w.alloc (.cells #[.int .i64 kind,.int .i64 draw,m0,m1,m2,m3,m4,m5,m6,m7,m8,m9,k12,k13,k14,k15] 61)).alloc (.cells #[.int .i64 0,.int .i64 0,.bool false,.int .i64 0,.slice none 0 0,.slice none 0 0,.int .i64 0,.slice none 0 0,.int .i64 0,.int .i64 0,.int .i64 0,.int .i64 0] 80)).heap[w.heap.size]?=some (.cells #[.int .i64 kind,.int .i64 draw,m0,m1,m2,m3,m4,m5,m6,m7,m8,m9,k12,k13,k14,k15] 61 (0,0)):=block_alloc (World.alloc_at w _) _
 have hr1:((w.alloc (.cells #[.int .i64 kind,.int .i64 draw,m0,m1,m2,m3,m4,m5,m6,m7,m8,m9,k12,k13,k14,k15] 61)).alloc (.cells #[.int .i64 0,.int .i64 0,.bool false,.int .i64 0,.slice none 0 0,.slice none 0 0,.int .i64 0,.slice none 0 0,.int .i64 0,.int .i64 0,.int .i64 0,.int .i64 0] 80)).heap[w.heap.size+1]?=some (.cells #[.int .i64 0,.int .i64 0,.bool false,.int .i64 0,.slice none 0 0,.slice none 0 0,.int .i64 0,.slice none 0 0,.int .i64 0,.int .i64 0,.int .i64 0,.int .i64 0] 80 (0,0)):=by
  have:=World.alloc_at (w.alloc (.cells #[.int .i64 kind,.int .i64 draw,m0,m1,m2,m3,m4,m5,m6,m7,m8,m9,k12,k13,k14,k15] 61)) (.cells #[.int .i64 0,.int .i64 0,.bool false,.int .i64 0,.slice none 0 0,.slice none 0 0,.int .i64 0,.slice none 0 0,.int .i64 0,.int .i64 0,.int .i64 0,.int .i64 0] 80)
  rwa [World.alloc_size] at this
 have hz1:((w.alloc (.cells #[.int .i64 kind,.int .i64 draw,m0,m1,m2,m3,m4,m5,m6,m7,m8,m9,k12,k13,k14,k15] 61)).alloc (.cells #[.int .i64 0,.int .i64 0,.bool false,.int .i64 0,.slice none 0 0,.slice none 0 0,.int .i64 0,.slice none 0 0,.int .i64 0,.int .i64 0,.int .i64 0,.int .i64 0] 80)).heap.size=w.heap.size+2:=by simp
 obtain ⟨z,hz⟩:∃ z,z=w.heap.size:=⟨_,rfl⟩
 rw [←hz] at he1 hr1 hz1
 rw [←hz]
 have HX:=ld hz
 clear hz
 generalize ((w.alloc (.cells #[.int .i64 kind,.int .i64 draw,m0,m1,m2,m3,m4,m5,m6,m7,m8,m9,k12,k13,k14,k15] 61)).alloc (.cells #[.int .i64 0,.int .i64 0,.bool false,.int .i64 0,.slice none 0 0,.slice none 0 0,.int .i64 0,.slice none 0 0,.int .i64 0,.int .i64 0,.int .i64 0,.int .i64 0] 80))=W1 at hb1 he1 hr1 hz1 ⊢
 have hs1:W1.heap[b]?=some (.cells (scellsG x) 52 (0,0)):=(hb1.block b hlb).trans HBLK.out
 have HB1:=ld hb1
 have HE1:=ld he1
 have HR1:=ld hr1
 have HZ1:=ld hz1
 have HS1:=ld hs1
 have HNF:=ld (show ∀ j,F j→j<z∧j≠b from fun j hj=>⟨by rw [HX.out];exact HID.out.bd.1 j hj,fun e=>(HFS.out j hj).2 (e▸.inr (.inl (List.mem_of_getElem? HXI.out.1)))⟩)
 have hlb1:b<z:=by rw [HX.out];exact hlb
 clear d2 hlb hb1 he1 hr1 hz1 hs1
 have HSS:Hid (∀ W,Chg F W1 W→W.heap[z]?=some (.cells #[.int .i64 kind,.int .i64 draw,m0,m1,m2,m3,m4,m5,m6,m7,m8,m9,k12,k13,k14,k15] 61 (0,0))∧W.heap[b]?=some (.cells (scellsG x) 52 (0,0))):=ld (fun W hW=>by
  have hz:=HZ1.out
  exact ⟨(hW.keep (by omega) (fun hf=>by have:=(HNF.out _ hf).1;omega)).trans HE1.out,(hW.keep (by omega) (fun hf=>(HNF.out _ hf).2 rfl)).trans HS1.out⟩)
 have HND:Hid (∀ W,Below W1.heap.size W1 W→IdleAt W F bn cf p):=ld (fun W hW=>(HID.out.keep HB1.out.size fun j hj hl=>HB1.out.block j hl).keep hW.size fun j hj hl=>hW.block j hl)
 go_cut [13,14] (fun r e wx=>∃ y,r=.pointer (some ⟨y,0,none⟩)∧e=.int .i64 0∧Hid (∃ (F' SR:Nat→Prop) (k:Nat) (wr:Bool) (eA:Option Addr) (en ec:Nat) (mA:Option Addr) (mn mc:Nat) (sA:Option Addr) (sn sc:Nat) (fi la:Int),wx.heap[y]?=some (.cells #[.int .i64 p'.term,.int .i64 p'.vote,.bool wr,.int .i64 ((k:Int)+1),.slice eA en ec,.slice mA mn mc,.int .i64 p'.commit,.slice sA sn sc,.int .i64 p'.role,.int .i64 p'.leader,.int .i64 fi,.int .i64 la] 80 (0,0))∧StepR W1 wx F F' SR bn cf p p' ms k wr eA en ec mA mn mc∧W1.heap.size≤y∧¬ F' y∧¬ SR y))
 case first =>
  refine wp_region_held_drew (S:=fun W:World=>W.heap[z]?=some (.cells #[.int .i64 kind,.int .i64 draw,m0,m1,m2,m3,m4,m5,m6,m7,m8,m9,k12,k13,k14,k15] 61 (0,0))∧W.heap[b]?=some (.cells (scellsG x) 52 (0,0))) (by kernel_rfl) (HSS.out _ (Chg.refl).drew) (fun hHeld=>?_)
  refine tks 0 (.pointer (some ⟨b,0,none⟩)) ?_
  refine tks 1 (.pointer (some ⟨b,0,none⟩)) ?_
  refine tks 2 (.pointer (some ⟨b,1,none⟩)) ?_
  refine tk 3 (.pointer (some ⟨bn,0,none⟩)) ?_ ?_
  ·intro w hSw;have q1:=vs1 hSw.2;rw [HXI.out.2.2] at q1;go_simp
  refine tk 4 (.agg #[.int .i64 kind,.int .i64 draw,m0,m1,m2,m3,m4,m5,m6,m7,m8,m9,k12,k13,k14,k15]) ?_ ?_
  ·intro w hSw;obtain ⟨e0,e1,e2,e3,e4,e5,e6,e7,e8,e9,e10,e11,e12,e13,e14,e15⟩:=cells16 hSw.1;go_simp
  refine wpAnyH_ready (rs:=[5,9]) (by kernel_rfl) (by simp) ?_
  refine AllReadyH.cons rfl (fun K hK=>?_) (AllReadyH.cons rfl (fun K hK=>?_) AllReadyH.nil)
  ·
   go_simp
   refine (HST.out _ (HB1.out.trans ((Below.refl _ _).drew.mono HB1.out.size)) (HND.out _ (Below.refl _ _).drew)).mono ?_
   rintro e w5 ⟨F',SR,k,wr,eA,en,ec,mA,mn,mc,sA,sn,sc,fi,la,rfl,hS5⟩
   have hS5':StepR W1 w5 F F' SR bn cf p p' ms k wr eA en ec mA mn mc:=hS5.from (Below.refl _ _).drew
   go_wp2_with fail
   refine hks hK ?_ fun hHeld=>?_
   ·exact HSS.out _ hS5'.chg
   clear hK K
   refine tks 6 (.tuple #[.agg #[.int .i64 p'.term,.int .i64 p'.vote,.bool wr,.int .i64 ((k:Int)+1),.slice eA en ec,.slice mA mn mc,.int .i64 p'.commit,.slice sA sn sc,.int .i64 p'.role,.int .i64 p'.leader,.int .i64 fi,.int .i64 la],.int .i64 0]) ?_
   refine tks 7 (.agg #[.int .i64 p'.term,.int .i64 p'.vote,.bool wr,.int .i64 ((k:Int)+1),.slice eA en ec,.slice mA mn mc,.int .i64 p'.commit,.slice sA sn sc,.int .i64 p'.role,.int .i64 p'.leader,.int .i64 fi,.int .i64 la]) ?_
   refine tks 8 (.int .i64 0) ?_
   refine rdy 9 fun K hK=>?_
   go_simp
   refine hks hK ?_ fun hHeld=>?_
   ·exact HSS.out _ (hS5'.chg.alloc _)
   clear hK K
   have hy7:=World.alloc_at w5 (.cells #[.int .i64 0,.int .i64 0,.bool false,.int .i64 0,.slice none 0 0,.slice none 0 0,.int .i64 0,.slice none 0 0,.int .i64 0,.int .i64 0,.int .i64 0,.int .i64 0] 80)
   have hb7:=below_alloc1 w5 (.cells #[.int .i64 0,.int .i64 0,.bool false,.int .i64 0,.slice none 0 0,.slice none 0 0,.int .i64 0,.slice none 0 0,.int .i64 0,.int .i64 0,.int .i64 0,.int .i64 0] 80)
   have hz7:=World.alloc_size w5 (.cells #[.int .i64 0,.int .i64 0,.bool false,.int .i64 0,.slice none 0 0,.slice none 0 0,.int .i64 0,.slice none 0 0,.int .i64 0,.int .i64 0,.int .i64 0,.int .i64 0] 80)
   obtain ⟨y,hy⟩:∃ y,y=w5.heap.size:=⟨_,rfl⟩
   have hy1:W1.heap.size≤y:=by rw [hy];exact hS5'.chg.size
   have hS7:StepR W1 (w5.alloc (.cells #[.int .i64 0,.int .i64 0,.bool false,.int .i64 0,.slice none 0 0,.slice none 0 0,.int .i64 0,.slice none 0 0,.int .i64 0,.int .i64 0,.int .i64 0,.int .i64 0] 80)) F F' SR bn cf p p' ms k wr eA en ec mA mn mc:=hS5'.then (fun i hi hl=>hb7.block i hl) hb7.size (hS5'.chg.below hb7)
   have hyF:¬ F' y∧¬ SR y:=⟨fun hf=>by have:=hS5'.idle.bd.1 y hf;omega,fun hf=>by have:=(hS5'.fresh y hf).2.1;omega⟩
   rw [←hy] at hy7 hz7
   rw [←hy]
   clear hy hS5 hS5' hb7
   generalize w5.alloc (.cells #[.int .i64 0,.int .i64 0,.bool false,.int .i64 0,.slice none 0 0,.slice none 0 0,.int .i64 0,.slice none 0 0,.int .i64 0,.int .i64 0,.int .i64 0,.int .i64 0] 80)=w7 at hHeld hS7 hy7 hz7 ⊢
   refine rdy 10 fun K hK=>?_
   obtain ⟨c0,c1,c2,c3,c4,c5,c6,c7,c8,c9,c10,c11⟩:=cells12 hy7
   have hf7:=frozen_block hy7
   have hly7:=block_lt hy7
   have hyb:b≠y∧z≠y:=⟨by have:=HZ1.out;omega,by have:=HZ1.out;omega⟩
   go_simp
   have st:=store12 hy7 (.int .i64 p'.term) (.int .i64 p'.vote) (.bool wr) (.int .i64 ((k:Int)+1)) (.slice eA en ec) (.slice mA mn mc) (.int .i64 p'.commit) (.slice sA sn sc) (.int .i64 p'.role) (.int .i64 p'.leader) (.int .i64 fi) (.int .i64 la)
   refine hks hK ?_ fun hHeld=>?_
   ·exact ⟨(st.2.1 z hyb.2).trans (HSS.out _ hS7.chg).1,(st.2.1 b hyb.1).trans (HSS.out _ hS7.chg).2⟩
   clear hK K
   refine tks 11 (.int .i64 0) ?_
   refine don ?_
   go_wp2_with fail
   go_meet
   exact ⟨y,rfl,rfl,ld ⟨F',SR,k,wr,eA,en,ec,mA,mn,mc,sA,sn,sc,fi,la,st.1,hS7.then (fun i hi hl=>st.2.1 i (fun e=>by subst e;rcases hi with hi | hi;exact hyF.1 hi;exact hyF.2 hi)) (Nat.le_of_eq st.2.2.1.symm) (hS7.chg.trans2 (G:=fun i=>i=y) (chg12v _ _ _ _ _ _ _ _ _ _ _ _ _ _) (fun i hi=>.inr (hi▸hy1))),hy1,hyF⟩⟩
  ·
   go_simp
   refine hks hK ?_ fun hHeld=>?_
   ·exact HSS.out _ (Chg.refl.alloc _).drew
   clear hK K
   have hy4:(W1.alloc (.cells #[.int .i64 0,.int .i64 0,.bool false,.int .i64 0,.slice none 0 0,.slice none 0 0,.int .i64 0,.slice none 0 0,.int .i64 0,.int .i64 0,.int .i64 0,.int .i64 0] 80)).drew.heap[W1.heap.size]?=_:=World.alloc_at W1 (.cells #[.int .i64 0,.int .i64 0,.bool false,.int .i64 0,.slice none 0 0,.slice none 0 0,.int .i64 0,.slice none 0 0,.int .i64 0,.int .i64 0,.int .i64 0,.int .i64 0] 80)
   have hb4:Below W1.heap.size W1 (W1.alloc (.cells #[.int .i64 0,.int .i64 0,.bool false,.int .i64 0,.slice none 0 0,.slice none 0 0,.int .i64 0,.slice none 0 0,.int .i64 0,.int .i64 0,.int .i64 0,.int .i64 0] 80)).drew:=((Below.refl _ _).alloc (Nat.le_refl _) _).drew
   obtain ⟨y,hy⟩:∃ y,y=W1.heap.size:=⟨_,rfl⟩
   have hy1:W1.heap.size≤y:=Nat.le_of_eq hy.symm
   try rw [HZ1.out] at hHeld
   rw [←hy] at hy4
   rw [←hy]
   clear hy
   generalize (W1.alloc (.cells #[.int .i64 0,.int .i64 0,.bool false,.int .i64 0,.slice none 0 0,.slice none 0 0,.int .i64 0,.slice none 0 0,.int .i64 0,.int .i64 0,.int .i64 0,.int .i64 0] 80)).drew=w4 at hHeld hy4 hb4 ⊢
   refine rdy 5 fun K hK=>?_
   go_simp
   refine (HST.out _ (HB1.out.trans (hb4.mono HB1.out.size)) (HND.out _ hb4)).mono ?_
   rintro e w7 ⟨F',SR,k,wr,eA,en,ec,mA,mn,mc,sA,sn,sc,fi,la,rfl,hS5⟩
   have hS7:StepR W1 w7 F F' SR bn cf p p' ms k wr eA en ec mA mn mc:=hS5.from hb4
   have hly4:=block_lt hy4
   have hyN:¬ F y:=fun hf=>by have:=(HNF.out y hf).1;have:=HZ1.out;omega
   have hyF:¬ F' y∧¬ SR y:=⟨fun hf=>by rcases hS5.sub' y hf with hf | hf;exact hyN hf;omega,fun hf=>by have:=(hS5.fresh y hf).1;omega⟩
   have hy7:=(hS5.chg.keep hly4 hyN).trans hy4
   clear hS5 hb4
   go_wp2_with fail
   refine hks hK ?_ fun hHeld=>?_
   ·exact HSS.out _ hS7.chg
   clear hK K
   refine tks 6 (.tuple #[.agg #[.int .i64 p'.term,.int .i64 p'.vote,.bool wr,.int .i64 ((k:Int)+1),.slice eA en ec,.slice mA mn mc,.int .i64 p'.commit,.slice sA sn sc,.int .i64 p'.role,.int .i64 p'.leader,.int .i64 fi,.int .i64 la],.int .i64 0]) ?_
   refine tks 7 (.agg #[.int .i64 p'.term,.int .i64 p'.vote,.bool wr,.int .i64 ((k:Int)+1),.slice eA en ec,.slice mA mn mc,.int .i64 p'.commit,.slice sA sn sc,.int .i64 p'.role,.int .i64 p'.leader,.int .i64 fi,.int .i64 la]) ?_
   refine tks 8 (.int .i64 0) ?_
   refine rdy 10 fun K hK=>?_
   obtain ⟨c0,c1,c2,c3,c4,c5,c6,c7,c8,c9,c10,c11⟩:=cells12 hy7
   have hf7:=frozen_block hy7
   have hly7:=block_lt hy7
   have hyb:b≠y∧z≠y:=⟨by have:=HZ1.out;omega,by have:=HZ1.out;omega⟩
   go_simp
   have st:=store12 hy7 (.int .i64 p'.term) (.int .i64 p'.vote) (.bool wr) (.int .i64 ((k:Int)+1)) (.slice eA en ec) (.slice mA mn mc) (.int .i64 p'.commit) (.slice sA sn sc) (.int .i64 p'.role) (.int .i64 p'.leader) (.int .i64 fi) (.int .i64 la)
   refine hks hK ?_ fun hHeld=>?_
   ·exact ⟨(st.2.1 z hyb.2).trans (HSS.out _ hS7.chg).1,(st.2.1 b hyb.1).trans (HSS.out _ hS7.chg).2⟩
   clear hK K
   refine tks 11 (.int .i64 0) ?_
   refine don ?_
   go_wp2_with fail
   go_meet
   exact ⟨y,rfl,rfl,ld ⟨F',SR,k,wr,eA,en,ec,mA,mn,mc,sA,sn,sc,fi,la,st.1,hS7.then (fun i hi hl=>st.2.1 i (fun e=>by subst e;rcases hi with hi | hi;exact hyF.1 hi;exact hyF.2 hi)) (Nat.le_of_eq st.2.2.1.symm) (hS7.chg.trans2 (G:=fun i=>i=y) (chg12v _ _ _ _ _ _ _ _ _ _ _ _ _ _) (fun i hi=>.inr (hi▸hy1))),hy1,hyF⟩⟩
 case rest =>
  obtain ⟨y,rfl,rfl,hR⟩:=hcut
  obtain ⟨F',SR,k,wr,eA,en,ec,mA,mn,mc,sA,sn,sc,fi,la,hy,hS,hyx,hyF⟩:=hR.out
  have hs2:=HSS.out _ hS.chg
  have hr2:wc.heap[z+1]?=some (.cells #[.int .i64 0,.int .i64 0,.bool false,.int .i64 0,.slice none 0 0,.slice none 0 0,.int .i64 0,.slice none 0 0,.int .i64 0,.int .i64 0,.int .i64 0,.int .i64 0] 80 (0,0)):=(hS.chg.keep (by have:=HZ1.out;omega) (fun hf=>by have:=(HNF.out _ hf).1;omega)).trans HR1.out
  have HY:=ld hy
  have HS:=ld hS
  have HYN:=ld (And.intro hyx hyF)
  have HE2:=ld hs2.1
  have HB2:=ld hs2.2
  have HR2:=ld hr2
  obtain ⟨y0,y1,y2,y3,y4,y5,y6,y7,y8,y9,y10,y11⟩:=cells12 hy
  obtain ⟨r0,r1,r2,r3,r4,r5,r6,r7,r8,r9,r10,r11⟩:=cells12 hr2
  have hlr:=block_lt hr2
  have hly:=block_lt hy
  have hfr:=frozen_block hr2
  clear hy hS hyx hyF hs2 hr2 hR
  go_wp2_with (fail)
  have st:=store12 HR2.out (.int .i64 p'.term) (.int .i64 p'.vote) (.bool wr) (.int .i64 ((k:Int)+1)) (.slice eA en ec) (.slice mA mn mc) (.int .i64 p'.commit) (.slice sA sn sc) (.int .i64 p'.role) (.int .i64 p'.leader) (.int .i64 fi) (.int .i64 la)
  have hSw:=HS.out.from HB1.out
  have hq1:=HX.out
  have hq2:=HZ1.out
  have hS3:=hSw.then (fun i hi hl=>st.2.1 i (fun e=>by
   subst e
   rcases hi with hi | hi
   ·rcases HS.out.sub' _ hi with hf | hf
    ·have:=(HNF.out _ hf).1;omega
    ·omega
   ·have:=(HS.out.fresh _ hi).1;omega)) (Nat.le_of_eq st.2.2.1.symm) (hSw.chg.trans2 (G:=fun i=>i=z+1) (chg12v _ _ _ _ _ _ _ _ _ _ _ _ _ _) (fun i hi=>.inr (by omega)))
  have hE3:=(st.2.1 z (by omega)).trans HE2.out
  have hR3:=st.1
  clear y0 y1 y2 y3 y4 y5 y6 y7 y8 y9 y10 y11 r0 r1 r2 r3 r4 r5 r6 r7 r8 r9 r10 r11 hlr hly hfr st hSw
  generalize ((((((((((((wc.setCell ⟨z+1,0,none⟩ (.int .i64 p'.term)).setCell ⟨z+1,1,none⟩ (.int .i64 p'.vote)).setCell ⟨z+1,2,none⟩ (.bool wr)).setCell ⟨z+1,3,none⟩ (.int .i64 ((k:Int)+1))).setCell ⟨z+1,4,none⟩ (.slice eA en ec)).setCell ⟨z+1,5,none⟩ (.slice mA mn mc)).setCell ⟨z+1,6,none⟩ (.int .i64 p'.commit)).setCell ⟨z+1,7,none⟩ (.slice sA sn sc)).setCell ⟨z+1,8,none⟩ (.int .i64 p'.role)).setCell ⟨z+1,9,none⟩ (.int .i64 p'.leader)).setCell ⟨z+1,10,none⟩ (.int .i64 fi)).setCell ⟨z+1,11,none⟩ (.int .i64 la))=W3 at hS3 hE3 hR3 ⊢
  have HS3:=ld hS3
  have HE3:=ld hE3
  have HR3:=ld hR3
  clear hS3 hE3 hR3 hq1 hq2
  refine (num_any 0 W3).mono ?_
  rintro e w5 ⟨rfl,hw5⟩
  obtain rfl:W3=w5:=hw5.symm
  obtain ⟨e0,e1,e2,e3,e4,e5,e6,e7,e8,e9,e10,e11,e12,e13,e14,e15⟩:=cells16 HE3.out
  obtain ⟨r0,r1,r2,r3,r4,r5,r6,r7,r8,r9,r10,r11⟩:=cells12 HR3.out
  have hlr:=block_lt HR3.out
  have hle:=block_lt HE3.out
  go_wp2_with (fail)
  obtain ⟨⟨qs,hq1,hq2,hq3,hq4⟩,⟨mqs,hm1,hm2,hm3,hm4⟩,hkl,htk,hsm⟩:=HS3.out.rdy
  obtain ⟨hs1,hs2,hs3,hs4,hs5,hs6⟩:=HSE.out
  have hls:x.dl.length=p.log.length:=by have:=congrArg List.length hs6;rwa [List.length_map,numb_len] at this
  have hlq:qs.length=p'.log.length-k:=by have:=congrArg List.length hq4;rwa [List.length_map,numb_len,List.length_drop] at this
  have hlm:mqs.length=ms.length:=by have:=congrArg List.length hm4;simpa using this
  have hA3:VAt W3 S bw bs g sg net:=HHA.out.chg HS3.out.chg HFS.out
  have hmut:=HHA.out.mutLt
  have hnum:numb 0 p'.log=(numb 0 p.log).take k++numb k (p'.log.drop k):=by
   rw [numb_take,←htk]
   have h1:=numb_append (p'.log.take k) (p'.log.drop k) 0
   rw [List.take_append_drop,List.length_take,Nat.zero_add,Nat.min_eq_left hkl.2] at h1
   exact h1
  refine (done_any bw b i h bs g sg net S SR x KO VO LO kind draw m0 m1 m2 m3 m4 m5 m6 m7 m8 m9 k12 k13 k14 k15 ((i+1:Nat):Int) p'.term p'.vote p'.role p'.leader fi la k p.commit p'.commit wr eA mA sA en ec mn mc sn sc qs mqs (numb 0 p'.log) W3 hA3 HXI.out.1 HXI.out.2.1 HI.out.1 HI.out.2.1 HK.out HI.out.2.2 ?_ (fun j hj=>⟨(HS3.out.fresh j hj).2.1,fun hm=>by have:=hmut j hm;have:=(HS3.out.fresh j hj).1;omega⟩) hq1 hq2 hq3 hm1 hm2 hm3 (by rw [hls];exact hkl.1) (by have:=HLG.out;omega) (by rw [hlm];exact HNL.out.1) (fun m hm=>?_) ?_ HV.out HL.out HCP.out hs3 HCC.out.1 HCC.out.2.1 (by rw [numb_len];exact HCC.out.2.2) (by rw [numb_len];have:=HLG.out;omega) HK1.out HK2.out HTM.out).mono ?_
  ·rw [hs1,hs2]
   have h1:=HTV.out.1
   have h2:=HTV.out.2
   cases wr with
   | false =>
    obtain ⟨u1,u2,_⟩:=hsm rfl
    exact .inl ⟨by rw [u1],by rw [u2]⟩
   | true =>
    rcases Nat.lt_or_ge p.term p'.term with u | u
    ·exact .inr (.inr ⟨by exact_mod_cast u,rfl⟩)
    ·have e:p'.term=p.term:=by omega
     by_cases hv0:p.vote=0
     ·exact .inr (.inl ⟨by rw [e],by rw [hv0];rfl,rfl⟩)
     ·exact .inl ⟨by rw [e],by rw [h2 e hv0]⟩
  ·have hmm:pmOf m∈ms.map pmR:=hm4▸List.mem_map_of_mem hm
   obtain ⟨m',hm',he⟩:=List.mem_map.1 hmm
   have h1:=congrArg (fun q:PM=>q.es.length) he
   simp only [pmR,pmOf,MR.pm,numb_len,List.length_map] at h1
   have:=HNL.out.2 m' hm'
   omega
  ·cases wr with
   | false =>
    obtain ⟨_,_,u3⟩:=hsm rfl
    rw [if_neg (by decide),hs6,u3]
   | true=>rw [if_pos rfl,hs6,hq4];exact hnum
  rintro e w4 ⟨rfl,S2,g2,h2,x2,net2,hD⟩
  have HD:=ld hD
  have HMU:=ld hmut
  have HM4:=ld hm4
  clear hD e0 e1 e2 e3 e4 e5 e6 e7 e8 e9 e10 e11 e12 e13 e14 e15 r0 r1 r2 r3 r4 r5 r6 r7 r8 r9 r10 r11 hlr hle hq1 hq2 hq3 hq4 hm1 hm2 hm3 hm4 hkl htk hsm hs1 hs2 hs3 hs4 hs5 hs6 hls hlq hlm hA3 hmut hnum
  go_wp2_with (fail)
  go_ret2
  have hS3:=HS3.out
  have hD:=HD.out
  have hbd:=hS3.idle.bd.1
  have hnm:∀ j,F' j→¬ g.mut bw bs j:=fun j hj hm=>by
   rcases hS3.sub' j hj with hf | hf
   ·exact (HFS.out j hf).2 hm
   ·have:=HMU.out j hm;omega
  refine ⟨rfl,S2,F',g2,h2,x2,net2,hD.at_,hS3.idle.keep hD.chg.size fun j hj hl=>hD.chg.keep hl (hnm j hj),(hS3.chg.mono fun j hj=>.inl (.inl hj)).trans2 hD.chg (fun j hj=>.inl (.inr hj)),hD.sub,fun j hj=>(hD.sub' j hj).imp_right fun h1=>Nat.le_trans hS3.chg.size h1,fun j hj=>(hD.mu j hj).imp_right fun h1=>Nat.le_trans hS3.chg.size h1,hS3.sub,hS3.sub',fun j hj=>⟨fun hs=>?_,fun hm=>?_⟩,hD.seat,hD.same,by rw [hD.net,HM4.out],hD.inv,hD.hh⟩
  ·rcases hD.sub' j hs with h1 | h1
   ·rcases hS3.sub' j hj with hf | hf
    ·exact (HFS.out j hf).1 h1
    ·have:=HHA.out.bd j h1;omega
   ·have:=hbd j hj;omega
  ·rcases hD.mu j hm with h1 | h1
   ·exact hnm j hj h1
   ·have:=hbd j hj;omega
end Go.Proofs.YtocogcgnahbpkaaGreat
