/- part of the proof -/
import Derived.Test.YtpbmbjjfdpkhbaaGreatZw13
import Derived.Test.YtpbmbjjfdpkhbaaGreatZw13b
import Derived.Test.YtpbmbjjfdpkhbaaGreatZw5
import Derived.Test.YtpbmbjjfdpkhbaaGreatZw8
import Derived.Test.YtpbmbjjfdpkhbaaGreatZw4
import Derived.Test.YtpbmbjjfdpkhbaaGreatZw10
import Derived.Test.YtpbmbjjfdpkhbaaGreatZw14
import Derived.Deep.Cut
import Derived.Deep.CutRange
import Derived.Lib.SliceRun
import Derived.Deep.RegionLaw
import Derived.Test.YtpbmbjjfdpkhbaaGreatZw6
import Derived.BigQuiet
import Derived.Deep.RegionWith
namespace Go.Proofs.YtpbmbjjfdpkhbaaGreat
open Go Go.RowKit
set_option linter.all false
set_option maxRecDepth 100000
set_option maxHeartbeats 32000000
open Go.Proofs.Tryz
open And renaming intro->KW
open Below renaming refl->KR
open Bool renaming false_eq_true->Mj
open Go renaming bodyPost_ret->KV,info_parts->LU,wpList_load_mid->Mi,wpOp_step->KT,wp_load_mid->Mw
open Go.IntWalk renaming i64_in->KU,wrap64_in->Ml
open Go.Lib renaming hid->KO
open Go.Value renaming int->LB
open List renaming getElem?_cons_succ->La,getElem?_cons_zero->Lb,getElem?_toArray->LG,range->Lt,range'->MK,replicate->MU,setIfInBounds_toArray->Lg,set_cons_succ->LK,set_cons_zero->LC,size_toArray->Ll
open List.range renaming loop->MF
open Nat renaming le_refl->KS,le_trans->KY,reduceAdd->LD,reduceBEq->MZ,reduceEqDiff->Ms,reduceLT->M8,reduceSub->LF,zero_le->K8
def Cw (T:Nat->Td) (N n m:Nat):Td:=if n< m/\m<=N then T m else⟨0,0⟩
theorem IP (T:Nat->Td) (N:Nat):Cw T N N=noT:=by
 funext m
 unfold Cw noT
 rw[if_neg (by omega)]
theorem FK (T:Nat->Td) (N k n:Nat) (hn:k+1=n) (h:n<=N):Hg (Cw T N n) n (T n)=Cw T N k:=by
 funext m
 unfold Hg Cw
 by_cases hm:m=n
 ·subst hm;rw[if_pos rfl,if_pos (by omega)]
 ·rw[if_neg hm]
  by_cases h2:n< m/\m<=N
  ·rw[if_pos h2,if_pos (by omega)]
  ·rw[if_neg h2,if_neg (by omega)]
theorem Ag (T:Nat->Td) (N n m:Nat) (h:n< m) (h2:m<=N):Cw T N n m=T m:=if_pos ⟨h,h2⟩
def Cv (lev:Int) (mx ct:List Int) (w:World) (r:Ending) (w':World):Prop:=∃x2:Ix,r= .returned (.tuple #[.agg x2.row,.int .i64 0])/\x2.lev=lev/\x2.mx=mx/\x2.ct=ct/\Held (fun k=>k< w.heap.size) (fun W=>IxAt W x2) w'/\Below w.heap.size w w'
theorem ym {s:Ss} (h:lU s=0):bF s=true:=by
 unfold lU at h
 by_cases hm:bF s=true
 ·exact hm
 ·rw[if_neg hm]at h;omega
theorem AU (s:Ss) (w:World) (hs:SsAt w s) (ho:SsOk s) (he:lU s=0):Calls prog 240 #[.agg s.row] w (Cv (nN s:Nat) (Bq s) (Bw s) w):=by
 have hm:=ym he
 have htn:=r9 hm ho
 have hsg:=fG hm
 obtain⟨MX,hMX⟩:∃x,Bq s=x:=⟨_,rfl⟩
 obtain⟨CT,hCT⟩:∃x,Bw s=x:=⟨_,rfl⟩
 rw[hMX,hCT]
 have hMX2:=hMX
 have hCT2:=hCT
 unfold Bq at hMX2
 unfold Bw at hCT2
 obtain⟨N,hN⟩:∃N,2 ^ nN s-1=N:=⟨_,rfl⟩
 obtain⟨F,hF⟩:∃F,s.cs.length=F:=⟨_,rfl⟩
 rw[hN,hF]at htn
 obtain⟨lv,hlv⟩:∃x,nN s=x:=⟨_,rfl⟩
 rw[hlv]at htn hMX2 hCT2 hN ⊢
 obtain⟨M,hM⟩:∃M,N+1=M:=⟨_,rfl⟩
 have hN9:1<=N/\N<=127:=by
  have h1:=dP htn.l7
  have h2:2 ^ 1<=2 ^ lv:=Nat.pow_le_pow_right (n:=2) (by decide) htn.l1
  omega
 have hF0:0< F/\F<=64:=by have:=htn.nf;omega
 obtain⟨L0,hL0⟩:∃x,Nat.log2 F=x:=⟨_,rfl⟩
 have hL1:L0+1=lv:=by rw[<-hL0,<-hlv,<-hF];rfl
 have HDN:=KO (show∀W,Calls prog 221 #[.int .i64 (F:Nat)] W (fun r w'=>r= .returned (.tuple #[.int .i64 (L0:Nat),.int .i64 0])/\w'=W)from fun W=>by have:=oQ F W hF0.1 (by omega);rw[hL0]at this;exact this)
 have HSC:=KO (show∀W,SsAt W s->Calls prog 194 #[.agg s.row] W (fun r w'=>r= .returned (.int .i64 0)/\Below W.heap.size W w')from fun W h=>by have:=mf s W h ho;rw[he]at this;exact this)
 have HND:=KO (fun W=>Dq lv N M W htn.l1 htn.l7 hN hM)
 have HLF:=KO (show∀k W,k< F->SsAt W s->Calls prog 242 #[.agg s.row,.int .i64 (k:Nat)] W (fun r w'=>r= .returned (.agg #[.int .i64 (dI s k).max,.int .i64 ((dI s k).many:Nat)])/\Below W.heap.size W w')from fun k W hk h=>CU s k W h ho hm (by rw[hF];exact hk))
 have HNF:=KO (fun n (h1:1<=n) (h2:n<=N)=>yo htn.l7 htn.l1 h1 (show n< 2 ^ lv by omega))
 obtain⟨T,hT⟩:∃T,ig s lv=T:=⟨_,rfl⟩
 have HTL:=KO (show∀n,1<=n->n<=N->F<=n->T n=dI s (n-F)from fun n h1 h2 h3=>by rw[<-hT];have:=AB (s:=s) (HNF.out n h1 h2) (by rw[htn.hf];exact h3);rw[htn.hf]at this;exact this)
 have HTU:=KO (show∀n,1<=n->n< F->T n=jl (T (2*n)) (T (2*n+1))from fun n h1 h3=>by rw[<-hT];exact Gm (s:=s) (HNF.out n h1 (by have:=htn.nf;omega)) (by rw[htn.hf];exact h3))
 have HTE:=KO (show∀n,(T n).many<=4096 from fun n=>by rw[<-hT];exact GR s lv n htn.l7 (by have h1:=hsg.g64;omega))
 rw[hT]at hMX2 hCT2
 obtain⟨im,him,hm0,hm1,hm2⟩:=LU rF
 obtain⟨ic,hic,hc0,hc1,hc2⟩:=LU sH
 have hk1:=fun W=>aW (P:=prog) 26 2 im (.int .i64 0) underlying26 him hm0 N (by rw[hm2];omega) (by omega) W
 have hk2:=fun W=>aW (P:=prog) 27 3 ic (.int .i64 0) underlying27 hic hc0 N (by rw[hc2];omega) (by omega) W
 rw[hm1]at hk1
 rw[hc1]at hk2
 have hmx:madeCells #[.int .i64 0] (N*1)=(MU N (LB .i64 0)).toArray:=by
  apply Array.ext
  ·simp[madeCells]
  ·intro i h1 h2
   simp[madeCells,Nat.mod_one]
 have HK1:=KO hk1
 have HK2:=KO hk2
 have HMX:=KO hmx
 have HMXE:=KO (KW hMX2 hCT2)
 have HN:=KO (KW hN9 (KW hN (KW htn hsg)))
 have HF:=KO (KW hF0 (KW hM hF))
 obtain⟨W0,hW0⟩:∃W,(w.alloc (.cells s.row 29)).alloc (.cells #[.int .i64 0,.slice none 0 0,.slice none 0 0] 33)=W:=⟨_,rfl⟩
 have hb0:Below w.heap.size w W0:=by rw[<-hW0];exact((KR _ _).alloc (KS _) _).alloc (by simp) _
 have b0:Blk W0 w.heap.size 29 s.row:=by rw[<-hW0];exact(Blk.new _ _ _).alloc _
 have br:Blk W0 (w.heap.size+1) 33 #[.int .i64 0,.slice none 0 0,.slice none 0 0]:=by
  rw[<-hW0]
  have:=Blk.new (w.alloc (.cells s.row 29)) 33 #[.int .i64 0,.slice none 0 0,.slice none 0 0]
  rwa [World.size_alloc]at this
 have HW0:=KO hW0
 have HB0:=KO hb0
 have HC0:=KO b0
 have HR0:=KO br
 have HSA:=KO (fun W hb=>hs.below (w':=W) hb)
 have hwl:IntKind.i64.wrap ((L0:Int)+1)=(lv:Int):=by rw[KU _ (by have:=htn.l7;omega)];omega
 have hwm:IntKind.i64.wrap ((M:Int)-1)=(N:Int):=by rw[KU _ (by omega)];omega
 have q0:W0.cell? ⟨w.heap.size,0,none⟩=some (.int .i64 s.seg):=b0.cell 0
 have q1:W0.cell? ⟨w.heap.size,1,none⟩=some (.slice s.wA s.ws.length s.wc):=b0.cell 1
 have q2:W0.cell? ⟨w.heap.size,2,none⟩=some (.slice s.kA s.ks.length s.kc):=b0.cell 2
 have q3:W0.cell? ⟨w.heap.size,3,none⟩=some (.slice s.vA s.vs.length s.vc):=b0.cell 3
 have q4:W0.cell? ⟨w.heap.size,4,none⟩=some (.slice s.cA s.cs.length s.cc):=b0.cell 4
 have q5:W0.cell? ⟨w.heap.size,5,none⟩=some (.int .u64 s.laid):=b0.cell 5
 have HS0:=KO (HSC.out W0 (HSA.out W0 hb0))
 clear hm0 hm1 hm2 hc0 hc1 hc2 him hic hk1 hk2 hmx hMX2 hCT2 hN9 hN htn hsg hlv hL0 hL1 hMX hCT hs ho hm hW0 hb0 b0 br hT hF0 hM he HNF hF
 go_enter func240,ntmps240
 go_upto_region 1 with fail
 rw[HW0.out]
 go_wp2_with fail
 refine HS0.out.mono ?_
 rintro e w1 ⟨rfl,hb1⟩
 have c1:=HC0.out.below hb1 HC0.out.lt
 have r1:=HR0.out.below hb1 HR0.out.lt
 have hbw1:=aa HB0.out hb1
 have p4:w1.cell? ⟨w.heap.size,4,none⟩=some (.slice s.cA s.cs.length s.cc):=c1.cell 4
 rw[HF.out.2.2]at p4
 have i9':¬(8192:Int)< (F:Int):=by have:=HF.out.1;omega
 have HC1:=KO c1
 have HR1:=KO r1
 have HBW1:=KO hbw1
 clear hb1 c1 r1 hbw1 q0 q1 q2 q3 q4 q5
 go_wp2_with fail
 refine(HDN.out _).mono ?_
 rintro e w2 ⟨rfl,hw⟩
 rw[hw]
 clear hw w2
 go_wp2_with fail
 refine(HND.out _).mono ?_
 rintro e w3 ⟨gn,rfl,bn,ln,hb3⟩
 have HC3:=KO (HC1.out.below hb3 HC1.out.lt)
 have HR3:=KO (HR1.out.below hb3 HR1.out.lt)
 have HBW:=KO (aa HBW1.out hb3)
 have HBN:=KO bn
 have HLN:=KO (show w.heap.size<=gn from KY HBW1.out.size ln)
 clear bn ln hb3 p4 HC1 HR1
 go_upto_region 8 with fail
 refine aK (by kernel_rfl) 12 [.v [] fun v=>v 0= .int .i64 (L0:Nat),.v [0] fun v=>v 1= .int .i64 (lv:Nat),.v [] fun v=>v 2= .slice (some ⟨gn,0,none⟩) M M,.v [2] fun v=>v 3= .int .i64 (M:Nat),.v [3] fun v=>v 4= .int .i64 (N:Nat),.w [4] (fun v W=>∃g,v 5= .slice (some ⟨g,0,none⟩) N N/\w.heap.size<=g/\Blk W g 2 (MU N (LB .i64 0)).toArray) (fun _ W W' hb h=>let ⟨g,a,b,c⟩:=h;⟨g,a,b,c.below hb c.lt⟩),.v [] fun v=>v 6= .slice (some ⟨gn,0,none⟩) M M,.v [6] fun v=>v 7= .int .i64 (M:Nat),.v [7] fun v=>v 8= .int .i64 (N:Nat),.w [8] (fun v W=>∃g,v 9= .slice (some ⟨g,0,none⟩) N N/\w.heap.size<=g/\Blk W g 3 (MU N (LB .i64 0)).toArray) (fun _ W W' hb h=>let ⟨g,a,b,c⟩:=h;⟨g,a,b,c.below hb c.lt⟩),.w [1,5,9] (fun v W=>∃g f,v 10= .agg #[.int .i64 (lv:Nat),.slice (some ⟨g,0,none⟩) N N,.slice (some ⟨f,0,none⟩) N N]/\(w.heap.size<=g/\Blk W g 2 (MU N (LB .i64 0)).toArray)/\(w.heap.size<=f/\Blk W f 3 (MU N (LB .i64 0)).toArray)) (fun _ W W' hb h=>let ⟨g,f,a,b,c⟩:=h;⟨g,f,a,⟨b.1,b.2.below hb b.2.lt⟩,c.1,c.2.below hb c.2.lt⟩),.w [] (fun v W=>∃g,v 11= .pointer (some ⟨g,0,none⟩)/\w3.heap.size<=g/\Blk W g 33 #[.int .i64 0,.slice none 0 0,.slice none 0 0]) (fun _ W W' hb h=>let ⟨g,a,b,c⟩:=h;⟨g,a,b,c.below hb c.lt⟩)] [10,11] rfl rfl (by kernel_rfl) (by kernel_rfl) ⟨_,fun v=>by simp only[ou,Act.put,Lg,LC,LK];rfl,?_⟩
 simp only[iQ,oZ,dO,dV,gT,nC,Region.wanted,Lt,MF,MK,Lb,La,TEnt.v,TEnt.w,RB,RM,MZ,M8,decide_true,decide_false,Mj,Ms,LD,LF,if_true,if_false,↓reduceIte,Ll,List.length_cons,List.length_nil]
 refine⟨?_,?_,?_,?_,?_,?_,?_,?_,?_,?_,?_,?_,fun v W hb=>?_⟩
 all_goals try intro v W K hb hK
 all_goals try ((first|(intro a;rw[a]at hK ⊢)|skip);go_wp2_with fail;exact hK _ _ (KR _ _) rfl)
 ·intro h4
  rw[h4]at hK ⊢
  have hmk:=HK1.out
  go_wp2_with fail
  exact hK _ _ ((KR _ _).alloc (KS _) _) ⟨_,rfl,KY HBW.out.size hb.size,by rw[<-HMX.out,Nat.mul_one];exact Blk.new _ _ _⟩
 ·intro h8
  rw[h8]at hK ⊢
  have hmk:=HK2.out
  go_wp2_with fail
  exact hK _ _ ((KR _ _).alloc (KS _) _) ⟨_,rfl,KY HBW.out.size hb.size,by rw[<-HMX.out,Nat.mul_one];exact Blk.new _ _ _⟩
 ·intro h1 h5 h9
  obtain⟨g,h5,q5⟩:=h5
  obtain⟨f,h9,q9⟩:=h9
  rw[h1,h5,h9]at hK ⊢
  go_wp2_with fail
  exact hK _ _ (KR _ _) ⟨g,f,rfl,q5,q9⟩
 ·go_wp2_with fail
  exact hK _ _ ((KR _ _).alloc (KS _) _) ⟨_,rfl,hb.size,Blk.new _ _ _⟩
 intro h10 h11
 obtain⟨g16,g19,h10,⟨l16,b16⟩,l19,b19⟩:=h10
 obtain⟨g11,h11,hsz,b8⟩:=h11
 rw[h10,h11]
 have q:=b8.cell
 have r:=b8.frozen
 refine KT rfl fun K hK=>?_
 go_wp2_with fail
 try simp only[oZ]
 obtain⟨w8,hw8⟩:∃x,((W.setCell ⟨g11,0,none⟩ (.int .i64 (lv:Nat))).setCell ⟨g11,1,none⟩ (.slice (some ⟨g16,0,none⟩) N N)).setCell ⟨g11,2,none⟩ (.slice (some ⟨g19,0,none⟩) N N)=x:=⟨_,rfl⟩
 have hb8:Below w3.heap.size w3 w8:=hw8 ▸ ((hb.setCell (p:=⟨g11,0,none⟩) hsz _).setCell (p:=⟨g11,1,none⟩) hsz _).setCell (p:=⟨g11,2,none⟩) hsz _
 have hM:Mod (fun b=>b=g11) W w8:=hw8 ▸ (((Mod.refl (fun b=>b=g11) W).setCell (p:=⟨g11,0,none⟩) rfl _).setCell (p:=⟨g11,1,none⟩) rfl _).setCell (p:=⟨g11,2,none⟩) rfl _
 have hs8:=((b8.set_ 0 (.int .i64 (lv:Nat))).set_ 1 (.slice (some ⟨g16,0,none⟩) N N)).set_ 2 (.slice (some ⟨g19,0,none⟩) N N)
 rw[hw8]at hs8 ⊢
 have n2:g16≠g11:=bI b16 b8 (by decide)
 have n3:g19≠g11:=bI b19 b8 (by decide)
 have hm0:(MU N (LB .i64 0)).toArray=((rA lv (fun m=>decide (N< m/\m<=N)) (fun n=>(T n).max)).map iv).toArray:=by
  rw[nI lv HN.out.2.2.1.l1 _ _ (fun m=>decide_eq_false (by omega)),HN.out.2.1,List.map_replicate];rfl
 have hc0:(MU N (LB .i64 0)).toArray=((rA lv (fun m=>decide (N< m/\m<=N)) (fun n=>(((T n).many:Nat):Int))).map iv).toArray:=by
  rw[nI lv HN.out.2.2.1.l1 _ _ (fun m=>decide_eq_false (by omega)),HN.out.2.1,List.map_replicate];rfl
 have bn:=HBN.out.below hb8 HBN.out.lt
 rw[<-IP T N]at bn
 rw[hm0]at b16
 rw[hc0]at b19
 have n1:g16≠g19:=bI b16 b19 (by decide)
 have H16:=KO (b16.mod hM n2)
 have H19:=KO (b19.mod hM n3)
 have H8:=KO hs8
 have HNG:=KO (KW (bI bn H16.out (by decide)) (KW (bI bn H19.out (by decide)) (bI bn hs8 (by decide))))
 have HW8:=KO (aa HBW.out hb8)
 have HC8:=KO (HC3.out.below hb8 HC3.out.lt)
 have HR8:=KO (HR3.out.below hb8 HR3.out.lt)
 have H0N:=KO bn
 have HNE:=KO (KW n1 (KW n2 n3))
 have HLE:=KO (KW l16 (KW l19 (KY HBW.out.size hsz)))
 clear hm0 hc0 n1 n2 n3 l16 l19 b16 b19 b8 bn hb hb8 hM hs8 hw8 hsz h10 h11 q r HC3 HR3 HBN
 go_wp2_with fail
 go_loopw [9] (fun e W=>∃k:Nat,k<=N/\e= .int .i64 ((k:Nat):Int)/\Hid (Blk W g16 2 ((rA lv (fun m=>decide (k< m/\m<=N)) (fun n=>(T n).max)).map iv).toArray)/\Hid (Blk W g19 3 ((rA lv (fun m=>decide (k< m/\m<=N)) (fun n=>(((T n).many:Nat):Int))).map iv).toArray)/\Hid (Blk W gn 284 (wM N (Cw T N k) (cz lv N)).toArray)/\Hid (Mod (fun b=>b=g16∨b=g19∨b=gn) w8 W)) (fun e _=>(intOf e).toNat)
 case atStart=>exact⟨N,KS _,rfl,H16.out,H19.out,H0N.out,Mod.refl _ _⟩
 case round=>
  obtain⟨n,hn,rfl,hbm,hbc,hbn,hmd⟩:=hrel
  have HKN:=KO hn
  have hbw:=HW8.out.trans (hmd.out.below HW8.out.size (fun b hb=>hb.elim (fun q=>by rw[q];exact HLE.out.1) (fun hb=>hb.elim (fun q=>by rw[q];exact HLE.out.2.1) (fun q=>by rw[q];exact HLN.out))))
  have HBR:=KO hbw
  have H8R:=KO (H8.out.mod hmd.out (fun hx=>hx.elim (fun q=>HNE.out.2.1 q.symm) (fun hx=>hx.elim (fun q=>HNE.out.2.2 q.symm) (fun q=>HNG.out.2.2 q.symm))))
  have HCR:=KO (HC8.out.mod hmd.out (fun hx=>hx.elim (bI HC8.out H16.out (by decide)) (fun hx=>hx.elim (bI HC8.out H19.out (by decide)) (bI HC8.out H0N.out (by decide)))))
  have HSR:=KO (HSA.out wr hbw)
  clear hbw
  by_cases hlt:0< n
  ·obtain⟨k,hk⟩:∃k,n-1=k:=⟨_,rfl⟩
   have hkn:k+1=n:=by omega
   have i1:(n:Int)>0:=by omega
   have i2:(0:Int)<=(n:Int):=by omega
   have i3:(n:Int)< (M:Int):=by have:=HF.out.2.1;omega
   have HKK:=KO hkn
   obtain⟨Q,hQ⟩:∃Q,(T n).many=Q:=⟨_,rfl⟩
   obtain⟨X,hX⟩:∃X,(T n).max=X:=⟨_,rfl⟩
   have HTQ:=KO (KW hQ hX)
   have q0:wr.cell? ⟨w.heap.size,0,none⟩=some (.int .i64 s.seg):=HCR.out.cell 0
   have q1:wr.cell? ⟨w.heap.size,1,none⟩=some (.slice s.wA s.ws.length s.wc):=HCR.out.cell 1
   have q2:wr.cell? ⟨w.heap.size,2,none⟩=some (.slice s.kA s.ks.length s.kc):=HCR.out.cell 2
   have q3:wr.cell? ⟨w.heap.size,3,none⟩=some (.slice s.vA s.vs.length s.vc):=HCR.out.cell 3
   have q4:wr.cell? ⟨w.heap.size,4,none⟩=some (.slice s.cA s.cs.length s.cc):=HCR.out.cell 4
   have q5:wr.cell? ⟨w.heap.size,5,none⟩=some (.int .u64 s.laid):=HCR.out.cell 5
   have hcl:((s.cs.length:Nat):Int)=(F:Int):=by rw[HF.out.2.2]
   obtain⟨D,hD⟩:∃D:Int,(n:Int)-(F:Nat)=D:=⟨_,rfl⟩
   have j1:IntKind.i64.wrap ((n:Int)-(s.cs.length:Nat))=D:=by rw[HF.out.2.2,KU _ (by have:=HN.out.1;have:=HF.out.1;omega)];exact hD
   have hgl:=hbn.out.lt
   have hfin:∀W4,Below wr.heap.size wr W4->Blk ((W4.setCell ⟨gn,n*3,none⟩ (.int .i64 X)).setCell ⟨gn,n*3+1,none⟩ (.int .i64 (Q:Nat))) gn 284 (wM N (Cw T N k) (cz lv N)).toArray/\Mod (fun b=>b=gn) wr ((W4.setCell ⟨gn,n*3,none⟩ (.int .i64 X)).setCell ⟨gn,n*3+1,none⟩ (.int .i64 (Q:Nat))):=fun W4 h4=>by
    refine⟨?_,(((Mod.of_ext (S:=fun b=>b=gn) h4).setCell (p:=⟨gn,n*3,none⟩) rfl _).setCell (p:=⟨gn,n*3+1,none⟩) rfl _)⟩
    have h:=((hbn.out.below h4 hbn.out.lt).set_ (n*3) (.int .i64 X)).set_ (n*3+1) (.int .i64 (Q:Nat))
    have hs:=EP N (Cw T N n) (cz lv N) n (T n)
    rw[FK T N k n HKK.out HKN.out,HTQ.out.1,HTQ.out.2]at hs
    rw[<-hs]
    simpa using h
   have hold:∀W4,Below wr.heap.size wr W4->∀j,j< 2->(∃v,W4.cell? ⟨gn,n*3+j,none⟩=some v)/\W4.frozen? ⟨gn,n*3+j,none⟩=false:=fun W4 h4 j hj=>by
    have hn4:=hbn.out.below h4 hbn.out.lt
    have hnN:=HKN.out
    exact⟨⟨_,(hn4.cell _).trans (Array.getElem?_eq_getElem (show n*3+j< _ by simp[ja];omega))⟩,hn4.frozen _⟩
   have HFIN:=KO hfin
   have HOLD:=KO hold
   have HNF:=KO hD
   clear hfin hold hk hD hcl
   go_upto_if 56 with fail
   go_cut []from 57 to 81 (fun wx=>Blk wx gn 284 (wM N (Cw T N k) (cz lv N)).toArray/\Mod (fun b=>b=gn) wr wx)
   case first=>
    by_cases hf:F<=n
    ·obtain⟨sg,hsg⟩:∃sg,n-F=sg:=⟨_,rfl⟩
     have hl0:=HLF.out sg wr (by have:=HN.out.2.2.1.nf;omega) HSR.out
     have hte:T n=dI s sg:=by rw[<-hsg];exact HTL.out n (by omega) hn hf
     rw[<-hte,hQ,hX]at hl0
     have HL0:=KO hl0
     obtain rfl:D=(sg:Int):=by have:=HNF.out;omega
     have j2:(sg:Int)≥0:=by omega
     clear hl0 hte hsg hf hkn hlt hn hQ hX
     go_wp2_with fail
     refine HL0.out.mono ?_
     rintro e w4 ⟨rfl,hb4⟩
     obtain⟨⟨v1,s1⟩,f1⟩:=HOLD.out _ hb4 0 (by decide)
     obtain⟨⟨v2,s2⟩,f2⟩:=HOLD.out _ hb4 1 (by decide)
     rw[Nat.add_zero]at s1 f1
     have HB4:=KO hb4
     clear hb4 q0 q1 q2 q3 q4 q5
     go_wp2_with (go_meet;exact HFIN.out w4 HB4.out)
    ·have j2:¬D≥0:=by have:=HNF.out;omega
     obtain⟨m2,hm2⟩:∃m2,2*n=m2:=⟨_,rfl⟩
     obtain⟨m3,hm3⟩:∃m3,2*n+1=m3:=⟨_,rfl⟩
     have hmN:m3<=N:=by have:=HN.out.2.2.1.nf;omega
     have hm23:m3=m2+1:=by omega
     obtain⟨ta,ha⟩:∃ta,T m2=ta:=⟨_,rfl⟩
     obtain⟨tb,hb⟩:∃tb,T m3=tb:=⟨_,rfl⟩
     have hte:T n=jl ta tb:=by rw[<-ha,<-hb,<-hm2,<-hm3];exact HTU.out n (by omega) (by omega)
     have hal:ta.many<=100000:=by rw[<-ha];have:=HTE.out m2;omega
     have hbl:tb.many<=100000:=by rw[<-hb];have:=HTE.out m3;omega
     have ht2:Cw T N n m2=ta:=by rw[Ag T N n m2 (by omega) (by omega)];exact ha
     have ht3:Cw T N n m3=tb:=by rw[Ag T N n m3 (by omega) (by omega)];exact hb
     have hcell:∀m j,m<=N->j< 3->wr.cell? ⟨gn,m*3+j,none⟩=(zL (Cw T N n) (cz lv N) m)[j]?:=fun m j hm hj=>by rw[hbn.out.cell,LG,lq _ _ _ _ _ hm hj]
     have t20:wr.cell? ⟨gn,m2*3,none⟩=some (.int .i64 ta.max):=by have:=hcell m2 0 (by omega) (by omega);rw[Nat.add_zero]at this;rw[this];unfold zL;rw[ht2];rfl
     have t21:wr.cell? ⟨gn,m2*3+1,none⟩=some (.int .i64 (ta.many:Nat)):=by rw[hcell m2 1 (by omega) (by omega)];unfold zL;rw[ht2];rfl
     have t30:wr.cell? ⟨gn,m3*3,none⟩=some (.int .i64 tb.max):=by have:=hcell m3 0 (by omega) (by omega);rw[Nat.add_zero]at this;rw[this];unfold zL;rw[ht3];rfl
     have t31:wr.cell? ⟨gn,m3*3+1,none⟩=some (.int .i64 (tb.many:Nat)):=by rw[hcell m3 1 (by omega) (by omega)];unfold zL;rw[ht3];rfl
     have HAB:=KO (show∀W,Calls prog 243 #[.agg #[.int .i64 ta.max,.int .i64 (ta.many:Nat)],.agg #[.int .i64 tb.max,.int .i64 (tb.many:Nat)]] W (fun r w'=>r= .returned (.agg #[.int .i64 X,.int .i64 (Q:Nat)])/\Below W.heap.size W w')from fun W=>by have:=Ah ta tb W hal hbl;rw[<-hte]at this;rw[<-hQ,<-hX];exact this)
     have k1:(0:Int)<=(m2:Int):=by omega
     have k2:(m2:Int)< (M:Int):=by have:=HF.out.2.1;omega
     have k3:(0:Int)<=(m3:Int):=by omega
     have k4:(m3:Int)< (M:Int):=by have:=HF.out.2.1;omega
     have e1:∀[Inhabited Nat],IntKind.i64.wrap (2*(n:Int))=(m2:Int):=by intro _;rw[KU _ (by have:=HN.out.1;clear j1;omega)];clear j1;omega
     have e2:∀[Inhabited Nat],IntKind.i64.wrap ((m2:Int)+1)=(m3:Int):=by intro _;rw[KU _ (by have:=HN.out.1;clear j1 e1;omega)];clear j1 e1;omega
     have e3:∀[Inhabited Nat],wrap64 (2*(n:Int))=(m2:Int):=by intro _;rw[Ml _ (by have:=HN.out.1;clear j1 e1 e2;omega)];clear j1 e1 e2;omega
     have e4:∀[Inhabited Nat],wrap64 ((m2:Int)+1)=(m3:Int):=by intro _;rw[Ml _ (by have:=HN.out.1;clear j1 e1 e2 e3;omega)];clear j1 e1 e2 e3;omega
     clear hm2 hm3 hmN hm23 ha hb hte hal hbl ht2 ht3 hcell hf hkn hlt hn hQ hX
     go_upto_region 15 with fail
     clear j1 i1
     refine aK (by kernel_rfl) 18 [.v [] fun v=>v 0= .slice (some ⟨gn,0,none⟩) M M,.v [] fun v=>v 1= .int .i64 (n:Nat),.v [] fun v=>v 2= .slice (some ⟨gn,0,none⟩) M M,.v [] fun v=>v 3= .int .i64 (n:Nat),.v [3] fun v=>v 4= .int .i64 (m2:Nat),.v [2,4] fun v=>v 5= .pointer (some ⟨gn,m2*3,none⟩),.v [5] fun v=>v 6= .pointer (some ⟨gn,m2*3,none⟩),.v [6] fun v=>v 7= .agg #[.int .i64 ta.max,.int .i64 (ta.many:Nat)],.v [] fun v=>v 8= .slice (some ⟨gn,0,none⟩) M M,.v [] fun v=>v 9= .int .i64 (n:Nat),.v [9] fun v=>v 10= .int .i64 (m2:Nat),.v [10] fun v=>v 11= .int .i64 (m3:Nat),.v [8,11] fun v=>v 12= .pointer (some ⟨gn,m3*3,none⟩),.v [12] fun v=>v 13= .pointer (some ⟨gn,m3*3,none⟩),.v [13] fun v=>v 14= .agg #[.int .i64 tb.max,.int .i64 (tb.many:Nat)],.v [7,14] fun v=>v 15= .agg #[.int .i64 X,.int .i64 (Q:Nat)],.v [0,1] fun v=>v 16= .pointer (some ⟨gn,n*3,none⟩),.v [16] fun v=>v 17= .pointer (some ⟨gn,n*3,none⟩)] [15,17] rfl rfl (by kernel_rfl) (by kernel_rfl) ⟨_,fun v=>by simp only[ou,Act.put,Lg,LC,LK];rfl,?_⟩
     simp only[iQ,oZ,dO,dV,gT,nC,Region.wanted,Lt,MF,MK,Lb,La,TEnt.v,TEnt.w,RB,RM,MZ,M8,decide_true,decide_false,Mj,Ms,LD,LF,if_true,if_false,↓reduceIte,Ll,List.length_cons,List.length_nil]
     refine⟨?_,?_,?_,?_,?_,?_,?_,?_,?_,?_,?_,?_,?_,?_,?_,?_,?_,?_,fun v W hb=>?_⟩
     all_goals try intro v W K hb hK
     all_goals have hc:=(aO hb).1
     all_goals try ((first|(intro a b;rw[a,b]at hK ⊢)|(intro a;rw[a]at hK ⊢)|skip);go_wp2_with fail;exact hK _ _ (KR _ _) rfl)
     ·intro h7 h14
      rw[h7,h14]at hK ⊢
      go_wp2_with (go_at_call 243;refine(HAB.out _).mono ?_;rintro e1 W1 ⟨rfl,hb1⟩)
      exact hK _ _ hb1 rfl
     intro h15 h17
     rw[h15,h17]
     clear hc
     obtain⟨⟨v1,s1⟩,f1⟩:=HOLD.out _ hb 0 (by decide)
     obtain⟨⟨v2,s2⟩,f2⟩:=HOLD.out _ hb 1 (by decide)
     rw[Nat.add_zero]at s1 f1
     refine KT rfl fun K hK=>?_
     go_wp2_with fail
     go_meet
     exact HFIN.out _ hb
   case rest=>
   obtain⟨hb5,hm5⟩:=hcut
   have hcm:=hbm.out.mod hm5 (fun q=>HNG.out.1 q.symm)
   have hcc:=hbc.out.mod hm5 (fun q=>HNG.out.2.1 q.symm)
   have hc8:=H8R.out.mod hm5 (fun q=>HNG.out.2.2 q.symm)
   have HMD5:=KO (Mod.trans hmd.out (hm5.mono (fun b _ hb=> .inr (.inr hb))))
   obtain⟨p,hp⟩:∃p,(gV lv).getD k 0=p:=⟨_,rfl⟩
   have hkN:k< 2 ^ lv-1:=by have h1:=HN.out.2.1;have h2:=HKK.out;have h3:=HKN.out;omega
   have hpN:p< N:=by rw[<-hp,<-HN.out.2.1];exact(Bn HN.out.2.2.1.l7 HN.out.2.2.1.l1 hkN).2
   have hnN:=HKN.out
   have hk1:=HKK.out
   have hpu:cz lv N n=p:=by
    unfold cz
    rw[if_pos (by omega),<-hk1,Nat.add_sub_cancel,hp]
   have htt:Cw T N k n=⟨X,Q⟩:=by rw[Ag T N k n (by omega) hnN,<-HTQ.out.1,<-HTQ.out.2]
   have hnd:∀j,j< 3->wc.cell? ⟨gn,n*3+j,none⟩=[LB .i64 X,.int .i64 (Q:Nat),.int .i64 (p:Nat)][j]?:=fun j hj=>by
    rw[hb5.cell,LG,lq _ _ _ _ _ hnN hj]
    unfold zL
    rw[htt,hpu]
   have t0:wc.cell? ⟨gn,n*3,none⟩=some (.int .i64 X):=hnd 0 (by decide)
   have t1:wc.cell? ⟨gn,n*3+1,none⟩=some (.int .i64 (Q:Nat)):=hnd 1 (by decide)
   have t2:wc.cell? ⟨gn,n*3+2,none⟩=some (.int .i64 (p:Nat)):=hnd 2 (by decide)
   have x1:wc.cell? ⟨g11,1,none⟩=some (.slice (some ⟨g16,0,none⟩) N N):=hc8.cell 1
   have x2:wc.cell? ⟨g11,2,none⟩=some (.slice (some ⟨g19,0,none⟩) N N):=hc8.cell 2
   have ln:=hb5.lt
   have l8:=hc8.lt
   have hq:=qC HN.out.2.2.1.l7 HN.out.2.2.1.l1 hkN (fun m=>decide (n< m/\m<=N)) (fun m=>decide (k< m/\m<=N)) (fun n=>(T n).max) (by simp;omega) (fun m hm=>decide_eq_decide.2 (by omega))
   have hr:=qC HN.out.2.2.1.l7 HN.out.2.2.1.l1 hkN (fun m=>decide (n< m/\m<=N)) (fun m=>decide (k< m/\m<=N)) (fun n=>(((T n).many:Nat):Int)) (by simp;omega) (fun m hm=>decide_eq_decide.2 (by omega))
   rw[hk1,HTQ.out.2,hp]at hq
   rw[hk1,HTQ.out.1,hp]at hr
   have HQ:=KO hq
   have HRR:=KO hr
   have n1:¬g11=g16:=fun q=>HNE.out.2.1 q.symm
   have n2:¬gn=g16:=HNG.out.1
   have n3:¬g19=g16:=fun q=>HNE.out.1 q.symm
   have l1:(0:Int)<=(p:Int):=by omega
   have l2:(p:Int)< (N:Int):=by omega
   have hsz:∀(f:Nat->Int),p< ((rA lv (fun m=>decide (n< m/\m<=N)) f).map iv).toArray.size:=fun f=>by simp[ko _ _ _ HN.out.2.2.1.l1,HN.out.2.1];exact hpN
   have HSZ:=KO hsz
   have HM5:=KO hcm
   have HC5:=KO hcc
   have HN5:=KO hb5
   have hkn9:k<=N:=by omega
   have HK9:=KO (KW hkn9 (show k< n by omega))
   have hw9:wrap64 ((n:Int)-1)=(k:Int):=by rw[Ml _ (by have:=HN.out.1;clear j1;omega)];clear j1;omega
   have HW9:=KO hw9
   clear hm5 hb5 hcm hcc hc8 hp hkN hpN hnN hk1 hpu htt hnd hsz hq hr hkn9 hw9 q0 q1 q2 q3 q4 q5 hQ hX hkn hlt hn j1 hwl hwm hgl
   go_upto_region 16 with fail
   refine xH (fun b=>b=g16) 27 (by kernel_rfl) 29 [.v [] fun v=>v 0= .pointer (some ⟨g11,1,none⟩),.v [0] fun v=>v 1= .slice (some ⟨g16,0,none⟩) N N,.v [] fun v=>v 2= .slice (some ⟨gn,0,none⟩) M M,.v [] fun v=>v 3= .int .i64 (n:Nat),.v [2,3] fun v=>v 4= .pointer (some ⟨gn,n*3,none⟩),.v [4] fun v=>v 5= .pointer (some ⟨gn,n*3+2,none⟩),.v [5] fun v=>v 6= .int .i64 (p:Nat),.v [] fun v=>v 7= .pointer (some ⟨g11,2,none⟩),.v [7] fun v=>v 8= .slice (some ⟨g19,0,none⟩) N N,.v [] fun v=>v 9= .slice (some ⟨gn,0,none⟩) M M,.v [] fun v=>v 10= .int .i64 (n:Nat),.v [9,10] fun v=>v 11= .pointer (some ⟨gn,n*3,none⟩),.v [11] fun v=>v 12= .pointer (some ⟨gn,n*3+2,none⟩),.v [12] fun v=>v 13= .int .i64 (p:Nat),.v [] fun v=>v 14= .slice (some ⟨gn,0,none⟩) M M,.v [] fun v=>v 15= .int .i64 (n:Nat),.v [14,15] fun v=>v 16= .pointer (some ⟨gn,n*3,none⟩),.v [16] fun v=>v 17= .pointer (some ⟨gn,n*3,none⟩),.v [17] fun v=>v 18= .pointer (some ⟨gn,n*3,none⟩),.v [18] fun v=>v 19= .int .i64 X,.v [] fun v=>v 20= .slice (some ⟨gn,0,none⟩) M M,.v [] fun v=>v 21= .int .i64 (n:Nat),.v [20,21] fun v=>v 22= .pointer (some ⟨gn,n*3,none⟩),.v [22] fun v=>v 23= .pointer (some ⟨gn,n*3,none⟩),.v [23] fun v=>v 24= .pointer (some ⟨gn,n*3+1,none⟩),.v [24] fun v=>v 25= .int .i64 (Q:Nat),.v [1,6] fun v=>v 26= .pointer (some ⟨g16,p,none⟩),⟨[19,26],fun _ W=>Blk W g16 2 ((rA lv (fun m=>decide (k< m/\m<=N)) (fun n=>(T n).max)).map iv).toArray,false,fun _ _ _ hb h=>h.below hb h.lt,nofun⟩,.v [8,13] fun v=>v 28= .pointer (some ⟨g19,p,none⟩)] [25,27,28] rfl rfl (by kernel_rfl) (by kernel_rfl) ⟨_,fun v=>by simp only[ou,Act.put,Lg,LC,LK];rfl,?_⟩
   simp only[iQ,oZ,dO,dV,gT,nC,Region.wanted,Lt,MF,MK,Lb,La,TEnt.v,TEnt.w,RB,RM,MZ,M8,decide_true,decide_false,Mj,Ms,LD,LF,if_true,if_false,↓reduceIte,Ll,List.length_cons,List.length_nil]
   refine⟨?_,?_,?_,?_,?_,?_,?_,?_,?_,?_,?_,?_,?_,?_,?_,?_,?_,?_,?_,?_,?_,?_,?_,?_,?_,?_,?_,?_,?_,fun v W hb=>?_⟩
   all_goals try intro v W K hb hK
   all_goals try have hc:∀b o,b< wc.heap.size->¬b=g16->W.cell? ⟨b,o,none⟩=wc.cell? ⟨b,o,none⟩:=fun b o h1 h2=>hb.cell (p:=⟨b,o,none⟩) h1 h2
   all_goals try ((first|(intro a b;rw[a,b]at hK ⊢)|(intro a;rw[a]at hK ⊢)|skip);go_wp2_with fail;exact hK _ _ (KR _ _) rfl)
   ·intro h19 h26
    rw[h19,h26]at hK ⊢
    have hm:=HM5.out.below hb HM5.out.lt
    obtain⟨vx,hcx⟩:∃v,W.cell? ⟨g16,p,none⟩=some v:=⟨_,(hm.cell p).trans (Array.getElem?_eq_getElem (HSZ.out _))⟩
    have hfx:=hm.frozen p
    go_wp2_with fail
    exact hK undef _ ((Mod.refl (fun b=>b=g16) W).setCell (p:=⟨g16,p,none⟩) rfl _) (by rw[<-HQ.out,<-ww];exact hm.set_ p _)
   intro h25 h27 h28
   rw[h25,h28]
   have hcc:=HC5.out.mod hb n3
   obtain⟨vy,hcy⟩:∃v,W.cell? ⟨g19,p,none⟩=some v:=⟨_,(hcc.cell p).trans (Array.getElem?_eq_getElem (HSZ.out _))⟩
   have hfy:=hcc.frozen p
   have HM9:=KO (h27.far (p:=⟨g19,p,none⟩) HNE.out.1 (.int .i64 (Q:Nat)))
   have HC9:=KO (hcc.set_ p (.int .i64 (Q:Nat)))
   rw[ww,HRR.out]at HC9
   have HN9:=KO ((HN5.out.mod hb n2).far (p:=⟨g19,p,none⟩) HNG.out.2.1 (.int .i64 (Q:Nat)))
   have HMD9:=KO ((HMD5.out.trans (hb.mono (fun b _ hb=> .inl hb))).setCell (p:=⟨g19,p,none⟩) (.inr (.inl rfl)) (.int .i64 (Q:Nat)))
   clear hb hc h27 hcc t0 t1 t2 x1 x2 ln l8
   refine KT rfl fun K hK=>?_
   go_wp2_with fail
   go_roundw
   case rel=>exact⟨k,HK9.out.1,by first|rfl|rw[HW9.out],HM9.out,HC9.out,HN9.out,HMD9.out⟩
   case measure=>simp[intOf,HW9.out];first|exact HK9.out.2|(have:=HK9.out.2;omega)
  ·have i1:¬(n:Int)>0:=by omega
   have hm9:=qK HN.out.2.2.1.l7 HN.out.2.2.1.l1 (fun m=>decide (n< m/\m<=N)) (fun n=>(T n).max) (fun m h1 h2=>by rw[HN.out.2.1]at h2;simp;omega)
   have hc9:=qK HN.out.2.2.1.l7 HN.out.2.2.1.l1 (fun m=>decide (n< m/\m<=N)) (fun n=>(((T n).many:Nat):Int)) (fun m h1 h2=>by rw[HN.out.2.1]at h2;simp;omega)
   rw[HMXE.out.1]at hm9
   rw[HMXE.out.2]at hc9
   have hbm2:=hbm.out
   have hbc2:=hbc.out
   rw[hm9]at hbm2
   rw[hc9]at hbc2
   have hl1:MX.length=N:=by rw[<-hm9,ko _ _ _ HN.out.2.2.1.l1,HN.out.2.1]
   have hl2:CT.length=N:=by rw[<-hc9,ko _ _ _ HN.out.2.2.1.l1,HN.out.2.1]
   have HLL:=KO (KW hl1 hl2)
   have hrr:Blk wr (w.heap.size+1) 33 #[.int .i64 0,.slice none 0 0,.slice none 0 0]:=HR8.out.mod hmd.out (fun hx=>hx.elim (bI HR8.out H16.out (by decide)) (fun hx=>hx.elim (bI HR8.out H19.out (by decide)) (bI HR8.out H0N.out (by decide))))
   have HBX:=HBR
   have p0:wr.cell? ⟨g11,0,none⟩=some (.int .i64 (lv:Nat)):=H8R.out.cell 0
   have p1:wr.cell? ⟨g11,1,none⟩=some (.slice (some ⟨g16,0,none⟩) N N):=H8R.out.cell 1
   have p2:wr.cell? ⟨g11,2,none⟩=some (.slice (some ⟨g19,0,none⟩) N N):=H8R.out.cell 2
   have y0:wr.cell? ⟨w.heap.size+1,0,none⟩=some (.int .i64 0):=hrr.cell 0
   have y1:wr.cell? ⟨w.heap.size+1,1,none⟩=some (.slice none 0 0):=hrr.cell 1
   have y2:wr.cell? ⟨w.heap.size+1,2,none⟩=some (.slice none 0 0):=hrr.cell 2
   have z0:wr.frozen? ⟨w.heap.size+1,0,none⟩=false:=hrr.frozen 0
   have z1:wr.frozen? ⟨w.heap.size+1,1,none⟩=false:=hrr.frozen 1
   have z2:wr.frozen? ⟨w.heap.size+1,2,none⟩=false:=hrr.frozen 2
   have HRR:=KO hrr
   have HHB:=KO hbm2
   have HHC:=KO hbc2
   clear hlt hn hm9 hc9 hl1 hl2 hrr hbm hbc hbm2 hbc2
   go_wp2_with fail
   have hR:=((HRR.out.set_ 0 (.int .i64 (lv:Nat))).set_ 1 (.slice (some ⟨g16,0,none⟩) N N)).set_ 2 (.slice (some ⟨g19,0,none⟩) N N)
   have hMd:Mod (fun b=>b=w.heap.size+1) wr (((wr.setCell ⟨w.heap.size+1,0,none⟩ (.int .i64 (lv:Nat))).setCell ⟨w.heap.size+1,1,none⟩ (.slice (some ⟨g16,0,none⟩) N N)).setCell ⟨w.heap.size+1,2,none⟩ (.slice (some ⟨g19,0,none⟩) N N)):=(((Mod.refl (fun b=>b=w.heap.size+1) wr).setCell (p:=⟨w.heap.size+1,0,none⟩) rfl _).setCell (p:=⟨w.heap.size+1,1,none⟩) rfl _).setCell (p:=⟨w.heap.size+1,2,none⟩) rfl _
   obtain⟨WZ,hWZ⟩:∃WZ,((wr.setCell ⟨w.heap.size+1,0,none⟩ (.int .i64 (lv:Nat))).setCell ⟨w.heap.size+1,1,none⟩ (.slice (some ⟨g16,0,none⟩) N N)).setCell ⟨w.heap.size+1,2,none⟩ (.slice (some ⟨g19,0,none⟩) N N)=WZ:=⟨_,rfl⟩
   rw[hWZ]at hR hMd ⊢
   clear hWZ
   have e0:WZ.cell? ⟨w.heap.size+1,0,none⟩=some (.int .i64 (lv:Nat)):=by rw[hR.cell];rfl
   have e1:WZ.cell? ⟨w.heap.size+1,1,none⟩=some (.slice (some ⟨g16,0,none⟩) N N):=by rw[hR.cell];rfl
   have e2:WZ.cell? ⟨w.heap.size+1,2,none⟩=some (.slice (some ⟨g19,0,none⟩) N N):=by rw[hR.cell];rfl
   have HMZ:=KO hMd
   clear hR hMd
   refine KV (v:= .tuple #[.agg #[.int .i64 (lv:Nat),.slice (some ⟨g16,0,none⟩) N N,.slice (some ⟨g19,0,none⟩) N N],.int .i64 0]) (by simp[results,results240,go_sem,e0,e1,e2]) rfl ?_
   refine⟨⟨(lv:Nat),MX,CT,some ⟨g16,0,none⟩,some ⟨g19,0,none⟩,N,N⟩,?_,rfl,rfl,rfl,?_,?_⟩
   ·show _=Ending.returned (.tuple #[.agg #[.int .i64 (lv:Nat),.slice (some ⟨g16,0,none⟩) MX.length N,.slice (some ⟨g19,0,none⟩) CT.length N],.int .i64 0])
    rw[HLL.out.1,HLL.out.2]
   ·exact Gx (HHB.out.mod HMZ.out (bI HHB.out HRR.out (by decide))) (HHC.out.mod HMZ.out (bI HHC.out HRR.out (by decide))) HLE.out.1 HLE.out.2.1 _
   ·exact HBX.out.trans (HMZ.out.below HBX.out.size (fun b hb=>by have hb:b=w.heap.size+1:=hb;omega))
theorem IW (s:Ss) (x:Ix) (w:World) (hs:SsAt w s) (hx:IxAt w x) (ho:SsOk s) (hp:IxOk x) (he:lU s=0):
  Calls prog 239 #[.agg x.row,.agg s.row] w fun r w'=>r= .returned (.tuple #[.bool (Jc x s),.int .i64 0])/\Below w.heap.size w w':=by
 have hm:=ym he
 obtain⟨V,hV⟩:∃V,Jc x s=V:=⟨_,rfl⟩
 rw[hV]
 obtain⟨LV,hLV⟩:∃y:Int,((nN s:Nat):Int)=y:=⟨_,rfl⟩
 obtain⟨MX,hMX⟩:∃y,Bq s=y:=⟨_,rfl⟩
 obtain⟨CT,hCT⟩:∃y,Bw s=y:=⟨_,rfl⟩
 have hbt:∀W,SsAt W s->Calls prog 240 #[.agg s.row] W (Cv LV MX CT W):=fun W h=>by
  rw[<-hLV,<-hMX,<-hCT]
  exact AU s W h ho he
 have hsm:∀W (x2:Ix),IxAt W x->IxAt W x2->x2.lev=LV->x2.mx=MX->x2.ct=CT->Calls prog 107 #[.agg x.row,.agg x2.row] W (fun r w'=>r= .returned (.bool V)/\Below W.heap.size W w'):=fun W x2 a1 a2 l1 l2 l3=>by
  have q:=vL (.inl rfl) x x2 W a1 a2 hp (wV hm ho (l2.trans hMX.symm) (l3.trans hCT.symm))
  rw[wS (l1.trans hLV.symm) (l2.trans hMX.symm) (l3.trans hCT.symm),hV]at q
  exact q
 have HBT:=KO hbt
 have HSM:=KO hsm
 obtain⟨W0,hW0⟩:∃W,(w.alloc (.cells x.row 33)).alloc (.cells s.row 29)=W:=⟨_,rfl⟩
 have hb0:Below w.heap.size w W0:=by rw[<-hW0];exact((KR _ _).alloc (KS _) _).alloc (by simp) _
 have bx:Blk W0 w.heap.size 33 #[.int .i64 x.lev,.slice x.mA x.mx.length x.mc,.slice x.cA x.ct.length x.cc]:=by rw[<-hW0];exact(Blk.new _ _ _).alloc _
 have bs:Blk W0 (w.heap.size+1) 29 s.row:=by
  rw[<-hW0]
  have:=Blk.new (w.alloc (.cells x.row 33)) 29 s.row
  rwa [World.size_alloc]at this
 have HW0:=KO hW0
 have HB0:=KO hb0
 have HX0:=KO bx
 have HQ0:=KO bs
 have HS0:=KO (hs.below hb0)
 have HI0:=KO (hx.below hb0)
 clear hW0 hb0 bx bs hs hx ho hp he hm hV hLV hMX hCT hbt hsm
 go_enter func239,ntmps239
 go_upto_region 1 with fail
 rw[HW0.out]
 try dsimp only[]
 repeat (first|refine eX HQ0.out 0 underlying29 fo rfl rfl rfl rfl ?_|go_values|go_skip|go_guarded|go_step|go_upon)
 refine(HBT.out _ HS0.out).mono ?_
 rintro e w1 ⟨y,rfl,l1,l2,l3,hh,hb1⟩
 have HB1:=KO (aa HB0.out hb1)
 have HX1:=KO (HX0.out.below hb1 HX0.out.lt)
 have HI1:=KO (HI0.out.below hb1)
 have HY1:=KO hh
 have HL:=KO (KW l1 (KW l2 l3))
 clear hb1 HB0 HX0 HQ0 HS0 HI0 hh l1 l2 l3
 go_upto_region 2 with fail
 obtain⟨W2,hW2⟩:∃W2,w1.alloc (.cells #[.int .i64 y.lev,.slice y.mA y.mx.length y.mc,.slice y.cA y.ct.length y.cc] 33)=W2:=⟨_,rfl⟩
 have hb2:Below w1.heap.size w1 W2:=by rw[<-hW2];exact(KR _ _).alloc (KS _) _
 have b2:Blk W2 w1.heap.size 33 #[.int .i64 y.lev,.slice y.mA y.mx.length y.mc,.slice y.cA y.ct.length y.cc]:=by rw[<-hW2];exact Blk.new _ _ _
 rw[hW2]
 clear hW2
 have HB2:=KO (aa HB1.out hb2)
 have HX2:=KO (HX1.out.below hb2 HX1.out.lt)
 have HI2:=KO (HI1.out.below hb2)
 have HY2:=KO (HY1.out.ext hb2).now
 have c0:=HX2.out.cell
 have d0:=b2.cell
 simp only[LG,Lb,La]at c0
 clear hb2 HB1 HX1 HI1 HY1 b2
 go_wp2_with fail
 refine(HSM.out _ y HI2.out HY2.out HL.out.1 HL.out.2.1 HL.out.2.2).mono ?_
 rintro e w3 ⟨rfl,hb3⟩
 have HB3:=KO (aa HB2.out hb3)
 clear hb3 c0 d0
 go_wp2_with fail
 refine KV (v:= .tuple #[.bool V,.int .i64 0]) (by simp[results,results239,go_sem]) rfl ?_
 exact⟨rfl,HB3.out⟩
theorem vH (c:Cfg) (s:Ss) (x:Ix) (w:World) (hs:SsAt w s) (hx:IxAt w x) (ho:SsOk s) (hp:IxOk x) (hcap:s.cs.length<=s.cc):
  Calls prog 238 #[.agg (cK c s x)] w fun r w'=>r= .returned (.int .i64 (fI c s x))/\Below w.heap.size w w':=by
 obtain⟨R,hR⟩:∃R,fI c s x=R:=⟨_,rfl⟩
 rw[hR]
 unfold fI at hR
 have h1:=fun W (h:SsAt W s)=>kr c s W h ho hcap
 obtain⟨E,hE⟩:∃E,fV c s=E:=⟨_,rfl⟩
 obtain⟨V,hV⟩:∃V,Jc x s=V:=⟨_,rfl⟩
 have hof:E=0->∀W,SsAt W s->IxAt W x->Calls prog 239 #[.agg x.row,.agg s.row] W (fun r w'=>r= .returned (.tuple #[.bool V,.int .i64 0])/\Below W.heap.size W w'):=fun hz W a1 a2=>by
  have q:=IW s x W a1 a2 ho hp (nz (hE.trans hz)).2
  rw[hV]at q
  exact q
 rw[hE,hV]at hR
 rw[hE]at h1
 have H1:=KO h1
 have HR:=KO hR
 have HOF:=KO hof
 obtain⟨W0,hW0,hb0,b0⟩:=Ka w c s x
 have HW0:=KO hW0
 have HB0:=KO hb0
 have HP0:=KO b0
 have HS0:=KO (hs.below hb0)
 have HI0:=KO (hx.below hb0)
 clear hW0 hb0 b0 hs hx ho hp hcap h1 hR hE hV hof
 go_enter func238,ntmps238
 go_upto_region 1 with fail
 rw[HW0.out]
 try dsimp only[]
 repeat (first|refine eX HP0.out 0 underlying31 bK rfl rfl rfl rfl ?_|go_values|go_skip|go_guarded|go_step|go_upon)
 refine(H1.out _ HS0.out).mono ?_
 rintro e w1 ⟨rfl,hb1⟩
 have HB1:=KO (aa HB0.out hb1)
 have HP1:=KO (HP0.out.below hb1 HP0.out.lt)
 have HS1:=KO (HS0.out.below hb1)
 have HI1:=KO (HI0.out.below hb1)
 clear hb1 HB0 HP0 HS0 HI0
 by_cases he:E=0
 case neg=>
  obtain rfl:R=E:=by rw[<-HR.out,if_neg he]
  go_wp2_with fail
  go_ret
  exact⟨rfl,HB1.out⟩
 case pos=>
 subst he
 try dsimp only[]
 repeat (first|refine eX HP1.out 9 underlying29 fo rfl rfl rfl rfl ?_|refine eX HP1.out 15 underlying33 wI rfl rfl rfl rfl ?_|go_values|go_skip|go_guarded|go_step|go_upon)
 refine(HOF.out rfl _ HS1.out HI1.out).mono ?_
 rintro e w2 ⟨rfl,hb2⟩
 have HB2:=KO (aa HB1.out hb2)
 clear hb2
 cases V with
 |false=>
  obtain rfl:R=8:=by rw[<-HR.out];rfl
  go_wp2_with fail
  go_ret
  exact⟨rfl,HB2.out⟩
 |true=>
  obtain rfl:R=0:=by rw[<-HR.out];rfl
  go_wp2_with fail
  go_ret
  exact⟨rfl,HB2.out⟩
theorem oV (c:Cfg) (s:Ss) (x:Ix) (w:World) (hs:SsAt w s) (hx:IxAt w x) (ho:SsOk s) (hp:IxOk x) (hcap:s.cs.length<=s.cc):Calls prog 232 #[.agg (cK c s x)] w fun r w'=>r= .returned (.int .i64 (fI c s x))/\Below w.heap.size w w':=by
 obtain⟨R,hR⟩:∃R,fI c s x=R:=⟨_,rfl⟩
 have hc:=fun W (h:Below w.heap.size w W)=>vH c s x W (hs.below h) (hx.below h) ho hp hcap
 rw[hR]at hc ⊢
 have HC:=KO hc
 obtain⟨W0,hW0,hb0,b0⟩:=gL w 151 (cK c s x)
 have HW0:=KO hW0
 have HB0:=KO hb0
 have HP0:=KO b0
 clear hW0 hb0 b0 hc hR
 go_enter func232,ntmps232
 go_upto_region 1 with fail
 rw[HW0.out]
 have rg0:W0.rangeAt w.heap.size 0 (cK c s x).toList:=ae HP0.out 0 18 rfl
 try dsimp only[]
 repeat (first|refine Mi rfl 151 (.tmp 1) rfl w.heap.size 0 rfl _ _ rg0 underlying151 rfl qF ?_|refine Mw 151 (.tmp 1) rfl w.heap.size 0 rfl _ _ rg0 underlying151 rfl qF ?_|go_values|go_skip|go_guarded|go_step|go_upon)
 clear rg0
 refine(HC.out _ HB0.out).mono ?_
 rintro e w1 ⟨rfl,hb1⟩
 have HB1:=KO (aa HB0.out hb1)
 clear hb1
 go_wp2_with fail
 go_ret
 exact⟨rfl,HB1.out⟩
theorem tu (T:TypeId) (v:Value) (fk fc:FuncId) (m a:Mv) (c:Cfg) (E:Int) (V:Bool) (w:World) (hs:MvAt w m)
  (hq:∀W,(binOp .eql 127 (.iface T v) .nilIface).run prog W= .ok (.bool false) W)
  (ma0:∀W,(nilAhead 438 T v "shelfmark/omap.check").run prog W= .ok (some false) W)
  (mb0:∀W,(method 438 T v "shelfmark/omap.check").run prog W= .ok (fk,v) W)
  (mc0:∀W,(callFunc fk #[v]).run prog W= .ok (.enter fk #[v]) W)
  (mc1:∀W,(callFunc fc #[v]).run prog W= .ok (.enter fc #[v]) W)
  (ma1:∀W,(nilAhead 438 T v "shelfmark/omap.conf").run prog W= .ok (some false) W)
  (mb1:∀W,(method 438 T v "shelfmark/omap.conf").run prog W= .ok (fc,v) W)
  (hbh:∀W,Calls prog 67 #[.agg m.row] W fun r w'=>r= .returned (.iface T v)/\Below W.heap.size W w')
  (hck:∀W,Below w.heap.size w W->Calls prog fk #[v] W fun r w'=>r= .returned (.int .i64 E)/\Below W.heap.size W w')
  (hcf:∀W,Calls prog fc #[v] W fun r w'=>r= .returned (.agg #[.int .u8 c.tag,.int .i64 c.most,.int .i64 c.seg,.int .i64 c.least,.int .i64 c.den,.int .i64 c.leafLow,.int .i64 c.rootLow,.int .i64 c.rootHigh,.int .i64 c.leafHigh])/\Below W.heap.size W w')
  (har:∀W,Below w.heap.size w W->Calls prog 81 #[.int .u64 m.ver,.iface T v] W (nR a W))
  (hsa:∀W n,MvLike a n->MvAt W n->MvAt W m->Calls prog 80 #[.agg n.row,.agg m.row] W fun r w'=>r= .returned (.bool V)/\Below W.heap.size W w'):
  Calls prog 66 #[.agg m.row] w fun r w'=>r= .returned (.int .i64 (if E=0 then(if c.tag=m.tag then(if V=true then 0 else 8)else 8)else E))/\Below w.heap.size w w':=by
 obtain⟨R,hR⟩:∃R,(if E=0 then(if c.tag=m.tag then(if V=true then(0:Int)else 8)else 8)else E)=R:=⟨_,rfl⟩
 rw[hR]
 have HSA:=KO hsa
 have HBH:=KO hbh
 have HCK:=KO hck
 have HCF:=KO hcf
 have HAR:=KO har
 have HR:=KO hR
 obtain⟨W0,hW0,hb0,b0⟩:=gL w 42 m.row
 have HW0:=KO hW0
 have HB0:=KO hb0
 have HP0:=KO b0
 have HS0:=KO (hs.below hb0)
 clear hW0 hb0 b0 hbh hck hcf har hR hs hsa
 go_enter func66,ntmps66
 go_upto_region 1 with fail
 rw[HW0.out]
 try dsimp only[]
 repeat (first|refine Mi rfl 42 (.tmp 1) rfl w.heap.size 0 rfl _ _ (ae HP0.out 0 46 rfl) underlying42 rfl af ?_|refine Mw 42 (.tmp 1) rfl w.heap.size 0 rfl _ _ (ae HP0.out 0 46 rfl) underlying42 rfl af ?_|go_values|go_skip|go_guarded|go_step|go_upon)
 refine(HBH.out _).mono ?_
 rintro e w1 ⟨rfl,hb1⟩
 have HB1:=KO (aa HB0.out hb1)
 have HP1:=KO (HP0.out.below hb1 HP0.out.lt)
 have HS1:=KO (HS0.out.below hb1)
 clear hb1
 go_wp2_with fail
 refine(HCK.out _ HB1.out).mono ?_
 rintro e w2 ⟨rfl,hb2⟩
 have HB2:=KO (aa HB1.out hb2)
 have HP2:=KO (HP1.out.below hb2 HP1.out.lt)
 have HM2:=KO (HS1.out.below hb2)
 clear hb2
 by_cases he:E=0
 case neg=>
  obtain rfl:R=E:=by rw[<-HR.out,if_neg he]
  go_wp2_with fail
  go_ret
  exact⟨rfl,HB2.out⟩
 case pos=>
 subst he
 obtain⟨U,hU⟩:∃U,decide (c.tag=m.tag->V=false)=U:=⟨_,rfl⟩
 have q0:w2.cell? ⟨w.heap.size,0,none⟩=some (.int .u8 m.tag):=HP2.out.cell 0
 have q1:w2.cell? ⟨w.heap.size,1,none⟩=some (.int .u64 m.ver):=HP2.out.cell 1
 have lg:=HP2.out.lt
 go_upto_region 7 with fail
 go_cut [28]from 14 to 28 (fun v wx=>v= .bool U/\Below w2.heap.size w2 wx)
 case first=>
  by_cases hy:c.tag=m.tag
  case pos=>
   have hz:(c.tag !=m.tag)=false:=by simp[hy]
   obtain rfl:U=!V:=by rw[<-hU];cases V <;> simp[hy]
   clear hy hU
   refine aK (by kernel_rfl) 15 [.v [] fun u=>u 0= .iface T v,.v [0] fun u=>u 1= .agg #[.int .u8 c.tag,.int .i64 c.most,.int .i64 c.seg,.int .i64 c.least,.int .i64 c.den,.int .i64 c.leafLow,.int .i64 c.rootLow,.int .i64 c.rootHigh,.int .i64 c.leafHigh],.v [1] fun u=>u 2= .int .u8 c.tag,.v [] fun u=>u 3= .pointer (some ⟨w.heap.size,0,none⟩),.v [3] fun u=>u 4= .int .u8 m.tag,.v [2,4] fun u=>u 5= .bool false,.v [5] fun u=>u 6= .bool false,.v [6] fun u=>u 7= .pointer (some ⟨w.heap.size,1,none⟩),.v [6,7] fun u=>u 8= .int .u64 m.ver,.v [6] fun u=>u 9= .iface T v,.w [6,8,9] (fun u W=>∃n:Mv,u 10= .agg n.row/\MvLike a n/\MvAt W n) (fun _ W W' hb h=>let ⟨n,x,y,z⟩:=h;⟨n,x,y,z.below hb⟩),.v [6] fun u=>u 11= .agg m.row,.v [6,10,11] fun u=>u 12= .bool V,.v [6,12] fun u=>u 13= .bool (!V),.v [6,13] fun u=>u 14= .bool (!V)] [14] rfl rfl (by kernel_rfl) (by kernel_rfl) ⟨_,fun u=>by simp only[ou,Act.put,Lg,LC,LK];rfl,?_⟩
   simp only[iQ,oZ,dO,dV,gT,nC,dX,Lt,MF,MK,Lb,La,TEnt.v,TEnt.w,RB,RM,MZ,M8,decide_true,decide_false,Mj,Ms,LD,LF,if_true,if_false,↓reduceIte,Ll,List.length_cons,List.length_nil]
   refine⟨?_,?_,?_,?_,?_,?_,?_,?_,?_,?_,?_,?_,?_,?_,?_,fun u W hb=>?_⟩
   all_goals try intro v W K hb hK
   all_goals have hc:=(aO hb).1
   all_goals try ((first|(intro a b;rw[a,b]at hK ⊢)|(intro a;rw[a]at hK ⊢)|skip);go_wp2_with fail;exact hK _ _ (KR _ _) rfl)
   ·intro h0
    rw[h0]at hK ⊢
    go_wp2_with (refine(HCF.out _).mono ?_;rintro e1 W1 ⟨rfl,hb1⟩)
    exact hK _ _ hb1 rfl
   ·intro h6 h8 h9
    rw[h6,h8,h9]at hK ⊢
    go_wp2_with (go_at_call 81;refine(HAR.out _ (aa HB2.out hb)).mono ?_;rintro e1 W1 ⟨n,rfl,hl,hh,hb1⟩)
    exact hK _ _ hb1 ⟨n,rfl,hl,hh.now⟩
   ·intro h6
    rw[h6]at hK ⊢
    try dsimp only[]
    repeat (first|refine Mi rfl 42 (.tmp 1) rfl w.heap.size 0 rfl _ _ (ae (HP2.out.below hb HP2.out.lt) 0 46 rfl) underlying42 rfl af ?_|refine Mw 42 (.tmp 1) rfl w.heap.size 0 rfl _ _ (ae (HP2.out.below hb HP2.out.lt) 0 46 rfl) underlying42 rfl af ?_|go_values|go_skip|go_guarded|go_step|go_upon)
    exact hK _ _ (KR _ _) rfl
   ·intro h6 h10 h11
    obtain⟨n,h10,hl,hn⟩:=h10
    rw[h6,h10,h11]at hK ⊢
    go_wp2_with (go_at_call 80;refine(HSA.out _ n hl hn (HM2.out.below hb)).mono ?_;rintro e1 W1 ⟨rfl,hb1⟩)
    exact hK _ _ hb1 rfl
   intro h14
   rw[h14]
   go_wp2_with fail
   go_meet
   exact⟨rfl,hb⟩
  case neg=>
   have hz:(c.tag !=m.tag)=true:=by simp[hy]
   obtain rfl:U=true:=by rw[<-hU];simp[hy]
   clear hy hU
   refine aK (by kernel_rfl) 15 [.v [] fun u=>u 0= .iface T v,.v [0] fun u=>u 1= .agg #[.int .u8 c.tag,.int .i64 c.most,.int .i64 c.seg,.int .i64 c.least,.int .i64 c.den,.int .i64 c.leafLow,.int .i64 c.rootLow,.int .i64 c.rootHigh,.int .i64 c.leafHigh],.v [1] fun u=>u 2= .int .u8 c.tag,.v [] fun u=>u 3= .pointer (some ⟨w.heap.size,0,none⟩),.v [3] fun u=>u 4= .int .u8 m.tag,.v [2,4] fun u=>u 5= .bool true,.v [5] fun u=>u 6= .bool true,.v [6] fun u=>u 7=undef,.v [6] fun u=>u 8=undef,.v [6] fun u=>u 9=undef,.v [6] fun u=>u 10=undef,.v [6] fun u=>u 11=undef,.v [6] fun u=>u 12=undef,.v [6] fun u=>u 13=undef,.v [6] fun u=>u 14= .bool true] [14] rfl rfl (by kernel_rfl) (by kernel_rfl) ⟨_,fun u=>by simp only[ou,Act.put,Lg,LC,LK];rfl,?_⟩
   simp only[iQ,oZ,dO,dV,gT,nC,dX,Lt,MF,MK,Lb,La,TEnt.v,TEnt.w,RB,RM,MZ,M8,decide_true,decide_false,Mj,Ms,LD,LF,if_true,if_false,↓reduceIte,Ll,List.length_cons,List.length_nil]
   refine⟨?_,?_,?_,?_,?_,?_,?_,?_,?_,?_,?_,?_,?_,?_,?_,fun u W hb=>?_⟩
   all_goals try intro v W K hb hK
   all_goals have hc:=(aO hb).1
   all_goals try ((first|(intro a b;rw[a,b]at hK ⊢)|(intro a;rw[a]at hK ⊢)|skip);go_wp2_with fail;exact hK _ _ (KR _ _) rfl)
   ·intro h0
    rw[h0]at hK ⊢
    go_wp2_with (refine(HCF.out _).mono ?_;rintro e1 W1 ⟨rfl,hb1⟩)
    exact hK _ _ hb1 rfl
   intro h14
   rw[h14]
   go_wp2_with fail
   go_meet
   exact⟨rfl,hb⟩
 case rest=>
 obtain⟨rfl,hb3⟩:=hcut
 have HB3:=KO (aa HB2.out hb3)
 obtain rfl:R=if U=true then 8 else 0:=by rw[<-HR.out,<-hU];by_cases hy:c.tag=m.tag <;> cases V <;> simp[hy]
 clear hb3 hU q0 q1 lg
 cases U with
 |false=>
  go_wp2_with fail
  go_ret
  exact⟨rfl,HB3.out⟩
 |true=>
  go_wp2_with fail
  go_ret
  exact⟨rfl,HB3.out⟩
theorem rz (m:Mv) (w:World) (ht:m.tag=1∨m.tag=2∨m.tag=3) (hs:MvAt w m) (ho:MvOk m) (hcp:m.ps.cs.length<=m.ps.cc) (hcb:m.bs.cs.length<=m.bs.cc):
  Calls prog 66 #[.agg m.row] w fun r w'=>r= .returned (.int .i64 (aV m))/\Below w.heap.size w w':=by
 have hsa:=fun(a:Mv) (ha:MvOk a) W (n:Mv) (h1:MvLike a n) (h2:MvAt W n) (h3:MvAt W m)=>zZ (.inl rfl) n m W h2 h3 (mU h1 ha) ho
 have hsb:∀(a:Mv),MvOk a->∀W n,MvLike a n->MvAt W n->MvAt W m->Calls prog 80 #[.agg n.row,.agg m.row] W (fun r w'=>r= .returned (.bool (fM m a))/\Below W.heap.size W w'):=fun a ha W n h1 h2 h3=>by
  have:=hsa a ha W n h1 h2 h3
  rw[jR n m,jU h1 m]at this
  exact this
 rcases ht with ht|ht|ht
 ·have:=tu 150 (.agg (cB m.pc m.ps)) 185 186 m (fA m) m.pc (fV m.pc m.ps) (fM m (fA m)) w hs (fun W=>by kernel_rfl) (fun W=>by kernel_rfl) (fun W=>by kernel_rfl) (fun W=>by kernel_rfl) (fun W=>by kernel_rfl) (fun W=>by kernel_rfl) (fun W=>by kernel_rfl) (fun W=>qg m W ht) (fun W h=>qo m.pc m.ps W (hs.pma.below h) ho.pma hcp) (fun W=>rG m.pc m.ps W) (fun W h=>wP m W ht (hs.below h) ho) (hsb _ (uQ ho))
  simpa[aV,eD,kJ,fq,ht]using this
 ·have:=tu 151 (.agg (cK m.bc m.bs m.bx)) 232 233 m (fu m) m.bc (fI m.bc m.bs m.bx) (fM m (fu m)) w hs (fun W=>by kernel_rfl) (fun W=>by kernel_rfl) (fun W=>by kernel_rfl) (fun W=>by kernel_rfl) (fun W=>by kernel_rfl) (fun W=>by kernel_rfl) (fun W=>by kernel_rfl) (fun W=>pJ m W ht) (fun W h=>oV m.bc m.bs m.bx W (hs.cob.below h) (hs.ix.below h) ho.cob ho.ix hcb) (fun W=>qm m.bc m.bs m.bx W) (fun W h=>wY m W ht (hs.below h) ho) (hsb _ (uW ho))
  simpa[aV,eD,kJ,fq,ht]using this
 ·have:=tu 152 (.agg (eH m.lc m.lB m.lR.length m.lk m.ln)) 251 252 m (fw m) m.lc (jw m.lc (aB m.lR)) (fM m (fw m)) w hs (fun W=>by kernel_rfl) (fun W=>by kernel_rfl) (fun W=>by kernel_rfl) (fun W=>by kernel_rfl) (fun W=>by kernel_rfl) (fun W=>by kernel_rfl) (fun W=>by kernel_rfl) (fun W=>pE m W ht) (fun W h=>qz m.lc m.lB m.lR m.lk m.ln W (RunsAt.below hs.log h) (by have:=ho.log;omega) (by have:=ho.log;omega)) (fun W=>tJ m.lc m.lB m.lR m.lk m.ln W) (fun W h=>xY m W ht (hs.below h) ho) (hsb _ (uD ho))
  simpa[aV,eD,kJ,fq,ht]using this
theorem yh (w:World) (B:Nat) (e:TypeId):w.ownsRow B e 2 (.slice none 0 0) 0 (([]:List Pr).flatMap Pr.cells):=⟨rfl,.inl ⟨rfl,rfl⟩⟩
theorem G8 {L:Lv} (h:fE L=0):Ris (jK L):=by
 unfold jK au
 rw[if_pos h]
 have:dD (oU L)=oU L:=by unfold oU;exact oC _
 rw[this,vX,List.pairwise_map]
 exact Fs (lN.1 h)
theorem lF {m:Mv} (h:aV m=0):(m.tag=1∨m.tag=2∨m.tag=3)/\eD m=0:=by
 unfold aV at h
 by_cases h1:m.tag=1∨m.tag=2∨m.tag=3
 ·rw[if_pos h1]at h
  by_cases h2:eD m=0
  ·exact⟨h1,h2⟩
  ·rw[if_neg h2]at h;exact absurd h h2
 ·rw[if_neg h1]at h;omega
theorem vR {c:Cfg} {s:Ss} {x:Ix} (h:fI c s x=0):fV c s=0:=by
 unfold fI at h
 by_cases h1:fV c s=0
 ·exact h1
 ·rw[if_neg h1]at h;exact absurd h h1
theorem kD {m:Mv} (h:aV m=0):Ris (allM m):=by
 have h2:=(lF h).2
 unfold eD at h2
 unfold allM
 split
 ·rename_i ht;rw[if_pos ht]at h2;exact yx h2
 ·rename_i ht;rw[if_neg ht]at h2
  split
  ·rename_i ht2;rw[if_pos ht2]at h2;exact yx (vR h2)
  ·rename_i ht2;rw[if_neg ht2]at h2;exact G8 (lT h2).2.1
theorem kv (c:Cfg) (s:Ss) (w:World) (hs:SsAt w s) (ho:SsOk s) (hcap:s.cs.length<=s.cc) (hp:fV c s=0):Calls prog 189 #[.agg (cB c s)] w (dZ (bE s) w):=by
 have hc:=fun W (h:Below w.heap.size w W)=>tN c s W (hs.below h) ho hcap hp (jD hp)
 obtain⟨L,hL⟩:∃L,bE s=L:=⟨_,rfl⟩
 rw[hL]at hc ⊢
 have HC:=KO hc
 obtain⟨W0,hW0,hb0,b0⟩:=gL w 150 (cB c s)
 have HW0:=KO hW0
 have HB0:=KO hb0
 have HP0:=KO b0
 clear hW0 hb0 b0 hc hL hs ho hcap hp
 go_enter func189,ntmps189
 go_upto_region 1 with fail
 rw[HW0.out]
 try dsimp only[]
 repeat (first|refine eX HP0.out 0 underlying150 qD rfl rfl rfl rfl ?_|go_values|go_skip|go_guarded|go_step|go_upon)
 refine(HC.out _ HB0.out).mono ?_
 rintro e w1 ⟨A1,c1,rfl,ho1,hb1⟩
 have HO1:=KO (av ho1 HB0.out.size)
 have HB1:=KO (aa HB0.out hb1)
 clear hb1 ho1
 go_wp2_with fail
 go_ret
 exact⟨A1,c1,rfl,HO1.out,HB1.out⟩
theorem oO (c:Cfg) (s:Ss) (x:Ix) (w:World) (hs:SsAt w s) (ho:SsOk s) (hcap:s.cs.length<=s.cc) (hp:fV c s=0):Calls prog 236 #[.agg (cK c s x)] w (dZ (bE s) w):=by
 have hc:=fun W (h:Below w.heap.size w W)=>kv c s W (hs.below h) ho hcap hp
 obtain⟨L,hL⟩:∃L,bE s=L:=⟨_,rfl⟩
 rw[hL]at hc ⊢
 have HC:=KO hc
 obtain⟨W0,hW0,hb0,b0⟩:=gL w 151 (cK c s x)
 have HW0:=KO hW0
 have HB0:=KO hb0
 have HP0:=KO b0
 clear hW0 hb0 b0 hc hL hs ho hcap hp
 go_enter func236,ntmps236
 go_upto_region 1 with fail
 rw[HW0.out]
 try dsimp only[]
 repeat (first|refine eX HP0.out 0 underlying31 bK rfl rfl rfl rfl ?_|go_values|go_skip|go_guarded|go_step|go_upon)
 refine(HC.out _ HB0.out).mono ?_
 rintro e w1 ⟨A1,c1,rfl,ho1,hb1⟩
 have HO1:=KO (av ho1 HB0.out.size)
 have HB1:=KO (aa HB0.out hb1)
 clear hb1 ho1
 go_wp2_with fail
 go_ret
 exact⟨A1,c1,rfl,HO1.out,HB1.out⟩
theorem qA (c:Cfg) (B:Option Addr) (Rs:List Rm) (k:Nat) (n:Int) (w:World) (hB:RunsAt w B Rs) (hT:tot (aB Rs)<=1000000) (hl:Rs.length<=1000000) (hp:jw c (aB Rs)=0):Calls prog 255 #[.agg (eH c B Rs.length k n)] w (dZ (jK (aB Rs)) w):=by
 have hc:=fun W (h:Below w.heap.size w W)=>AZ B Rs k c n W (RunsAt.below hB h) hT hl
 have hD:J4 c (aB Rs)=jK (aB Rs):=by unfold J4;rw[if_pos hp]
 rw[hp,hD]at hc
 obtain⟨L,hL⟩:∃L,jK (aB Rs)=L:=⟨_,rfl⟩
 rw[hL]at hc ⊢
 have HC:=KO hc
 obtain⟨W0,hW0,hb0,b0⟩:=gL w 152 (eH c B Rs.length k n)
 have HW0:=KO hW0
 have HB0:=KO hb0
 have HP0:=KO b0
 clear hW0 hb0 b0 hc hL hB hT hl hp hD
 go_enter func255,ntmps255
 go_upto_region 1 with fail
 rw[HW0.out]
 try dsimp only[]
 repeat (first|refine eX HP0.out 0 underlying152 qE rfl rfl rfl rfl ?_|go_values|go_skip|go_guarded|go_step|go_upon)
 refine(HC.out _ HB0.out).mono ?_
 rintro e w1 ⟨A1,c1,rfl,ho1,hb1⟩
 have HO1:=KO (av ho1 HB0.out.size)
 have HB1:=KO (aa HB0.out hb1)
 clear hb1 ho1
 go_wp2_with fail
 go_ret
 exact⟨A1,c1,rfl,HO1.out,HB1.out⟩
theorem vO (m:Mv) (w:World) (h1:m.tag≠1) (h2:m.tag≠2) (h3:m.tag≠3):
  Calls prog 66 #[.agg m.row] w fun r w'=>r= .returned (.int .i64 2)/\Below w.heap.size w w':=by
 have hq:∀(W:World),(binOp .eql 127 .nilIface .nilIface).run prog W= .ok (.bool true) W:=fun W=>by kernel_rfl
 have hbh:=fun W=>xg m W h1 h2 h3
 have HBH:=KO hbh
 obtain⟨W0,hW0,hb0,b0⟩:=gL w 42 m.row
 have HW0:=KO hW0
 have HB0:=KO hb0
 have HP0:=KO b0
 clear hW0 hb0 b0 hbh h1 h2 h3
 go_enter func66,ntmps66
 go_upto_region 1 with fail
 rw[HW0.out]
 try dsimp only[]
 repeat (first|refine eX HP0.out 0 underlying42 af rfl rfl rfl rfl ?_|go_values|go_skip|go_guarded|go_step|go_upon)
 refine(HBH.out _).mono ?_
 rintro e w1 ⟨rfl,hb1⟩
 have HB1:=KO (aa HB0.out hb1)
 clear hb1 HB0
 go_wp2_with fail
 go_ret
 exact⟨rfl,HB1.out⟩
theorem pX (m:Mv) (w:World) (hs:MvAt w m) (ho:MvOk m) (hcp:m.ps.cs.length<=m.ps.cc) (hcb:m.bs.cs.length<=m.bs.cc):
  Calls prog 66 #[.agg m.row] w fun r w'=>r= .returned (.int .i64 (aV m))/\Below w.heap.size w w':=by
 by_cases ht:m.tag=1∨m.tag=2∨m.tag=3
 ·exact rz m w ht hs ho hcp hcb
 have:=vO m w (fun h=>ht (.inl h)) (fun h=>ht (.inr (.inl h))) (fun h=>ht (.inr (.inr h)))
 have he:aV m=2:=by unfold aV;rw[if_neg ht]
 rw[he]
 exact this
theorem AA {P:Prop} (h:P:=by
 first|(have mz:=mk0;clear mz;have ma0:∀(v:Value) (W:World),(nilAhead 438 150 v "shelfmark/omap.pairs").run prog W= .ok (some false) W:=fun v W=>by kernel_rfl)|(have mz:=mk1;clear mz;have ma0:∀(v:Value) (W:World),(nilAhead 438 151 v "shelfmark/omap.pairs").run prog W= .ok (some false) W:=fun v W=>by kernel_rfl)|(have mz:=mk2;clear mz;have ma0:∀(v:Value) (W:World),(nilAhead 438 152 v "shelfmark/omap.pairs").run prog W= .ok (some false) W:=fun v W=>by kernel_rfl)
 first|(have mz:=mk0;clear mz;have mb0:∀(v:Value) (W:World),(method 438 150 v "shelfmark/omap.pairs").run prog W= .ok (189,v) W:=fun v W=>by kernel_rfl)|(have mz:=mk1;clear mz;have mb0:∀(v:Value) (W:World),(method 438 151 v "shelfmark/omap.pairs").run prog W= .ok (236,v) W:=fun v W=>by kernel_rfl)|(have mz:=mk2;clear mz;have mb0:∀(v:Value) (W:World),(method 438 152 v "shelfmark/omap.pairs").run prog W= .ok (255,v) W:=fun v W=>by kernel_rfl)
 have hz:=(lF he).2
 first|(have mz:=mk0;clear mz;have hal:allM m=bE m.ps:=by simp[allM,ht])|(have mz:=mk1;clear mz;have hal:allM m=bE m.bs:=by simp[allM,ht])|(have mz:=mk2;clear mz;have hal:allM m=jK (aB m.lR):=by simp[allM,ht])
 first|(have mz:=mk0;clear mz;have hz:fV m.pc m.ps=0:=by simpa[eD,ht]using hz)|(have mz:=mk1;clear mz;have hz:fI m.bc m.bs m.bx=0:=by simpa[eD,ht]using hz)|(have mz:=mk2;clear mz;have hz:jw m.lc (aB m.lR)=0:=by simpa[eD,ht]using hz)
 first|(have mz:=mk0;clear mz;have hbh:=fun W=>qg m W ht)|(have mz:=mk1;clear mz;have hbh:=fun W=>pJ m W ht)|(have mz:=mk2;clear mz;have hbh:=fun W=>pE m W ht)
 have hck:=fun W (h:Below w.heap.size w W)=>pX m W (hs.below h) ho hcp hcb
 rw[he]at hck
 first|(have mz:=mk0;clear mz;have hpr:=fun W (h:Below w.heap.size w W)=>kv m.pc m.ps W (hs.pma.below h) ho.pma hcp hz)|(have mz:=mk1;clear mz;have hpr:=fun W (h:Below w.heap.size w W)=>oO m.bc m.bs m.bx W (hs.cob.below h) ho.cob hcb (vR hz))|(have mz:=mk2;clear mz;have hpr:=fun W (h:Below w.heap.size w W)=>qA m.lc m.lB m.lR m.lk m.ln W (RunsAt.below hs.log h) (by have:=ho.log;omega) (by have:=ho.log;omega) hz)
 rw[hal]
 first|(have mz:=mk0;clear mz;obtain⟨L,hL⟩:∃L,bE m.ps=L:=⟨_,rfl⟩)|(have mz:=mk1;clear mz;obtain⟨L,hL⟩:∃L,bE m.bs=L:=⟨_,rfl⟩)|(have mz:=mk2;clear mz;obtain⟨L,hL⟩:∃L,jK (aB m.lR)=L:=⟨_,rfl⟩)
 rw[hL]at hpr ⊢
 have HBH:=KO hbh
 have HCK:=KO hck
 have HPR:=KO hpr
 obtain⟨W0,hW0,hb0,b0⟩:=gL w 42 m.row
 have HW0:=KO hW0
 have HB0:=KO hb0
 have HP0:=KO b0
 clear hW0 hb0 b0 hbh hck hpr hL hal hz he hs ho hcp hcb ht
 go_enter func53,ntmps53
 go_upto_region 1 with fail
 rw[HW0.out]
 try dsimp only[]
 repeat (first|refine eX HP0.out 0 underlying42 af rfl rfl rfl rfl ?_|go_values|go_skip|go_guarded|go_step|go_upon)
 refine(HCK.out _ HB0.out).mono ?_
 rintro e w1 ⟨rfl,hb1⟩
 have HB1:=KO (aa HB0.out hb1)
 have HP1:=KO (HP0.out.below hb1 HP0.out.lt)
 clear hb1 HB0 HP0
 go_upto_region 4 with fail
 try dsimp only[]
 repeat (first|refine eX HP1.out 0 underlying42 af rfl rfl rfl rfl ?_|go_values|go_skip|go_guarded|go_step|go_upon)
 refine(HBH.out _).mono ?_
 rintro e w2 ⟨rfl,hb2⟩
 have HB2:=KO (aa HB1.out hb2)
 clear hb2
 go_wp2_with fail
 refine(HPR.out _ HB2.out).mono ?_
 rintro e w3 ⟨A1,c1,rfl,ho1,hb3⟩
 have HO1:=KO (av ho1 HB2.out.size)
 have HB3:=KO (aa HB2.out hb3)
 clear hb3 ho1
 go_wp2_with fail
 refine KV (v:= .tuple #[.slice A1 L.length c1,.int .i64 0]) (by simp[results,results53,go_sem]) rfl ?_
 exact⟨A1,c1,rfl,HO1.out,HB3.out⟩):P:=h
theorem wm (m:Mv) (w:World) (ht:m.tag=1) (he:aV m=0) (hs:MvAt w m) (ho:MvOk m) (hcp:m.ps.cs.length<=m.ps.cc) (hcb:m.bs.cs.length<=m.bs.cc):
  Calls prog 53 #[.agg m.row] w (fP (allM m) 0 w):=by
 have mk0:=()
 exact AA
theorem wh (m:Mv) (w:World) (ht:m.tag=2) (he:aV m=0) (hs:MvAt w m) (ho:MvOk m) (hcp:m.ps.cs.length<=m.ps.cc) (hcb:m.bs.cs.length<=m.bs.cc):
  Calls prog 53 #[.agg m.row] w (fP (allM m) 0 w):=by
 have mk1:=()
 exact AA
theorem vT (m:Mv) (w:World) (ht:m.tag=3) (he:aV m=0) (hs:MvAt w m) (ho:MvOk m) (hcp:m.ps.cs.length<=m.ps.cc) (hcb:m.bs.cs.length<=m.bs.cc):
  Calls prog 53 #[.agg m.row] w (fP (allM m) 0 w):=by
 have mk2:=()
 exact AA
theorem wy (m:Mv) (w:World) (he:aV m≠0) (hs:MvAt w m) (ho:MvOk m) (hcp:m.ps.cs.length<=m.ps.cc) (hcb:m.bs.cs.length<=m.bs.cc):
  Calls prog 53 #[.agg m.row] w (fP [] (aV m) w):=by
 have hck:=fun W (h:Below w.heap.size w W)=>pX m W (hs.below h) ho hcp hcb
 obtain⟨E,hE⟩:∃E,aV m=E:=⟨_,rfl⟩
 rw[hE]at hck he ⊢
 have HCK:=KO hck
 obtain⟨W0,hW0,hb0,b0⟩:=gL w 42 m.row
 have HW0:=KO hW0
 have HB0:=KO hb0
 have HP0:=KO b0
 clear hW0 hb0 b0 hck hE hs ho hcp hcb
 go_enter func53,ntmps53
 go_upto_region 1 with fail
 rw[HW0.out]
 try dsimp only[]
 repeat (first|refine eX HP0.out 0 underlying42 af rfl rfl rfl rfl ?_|go_values|go_skip|go_guarded|go_step|go_upon)
 refine(HCK.out _ HB0.out).mono ?_
 rintro e w1 ⟨rfl,hb1⟩
 have HB1:=KO (aa HB0.out hb1)
 clear hb1 HB0
 go_wp2_with fail
 refine KV (v:= .tuple #[.slice none 0 0,.int .i64 E]) (by simp[results,results53,go_sem]) rfl ?_
 exact⟨none,0,rfl,yh _ _ _,HB1.out⟩
theorem iY (m:Mv) (w:World) (hs:MvAt w m) (ho:MvOk m) (hcp:m.ps.cs.length<=m.ps.cc) (hcb:m.bs.cs.length<=m.bs.cc):
  Calls prog 53 #[.agg m.row] w (fP (if aV m=0 then allM m else[]) (aV m) w):=by
 by_cases he:aV m=0
 ·rw[if_pos he,he]
  rcases(lF he).1 with h|h|h
  ·exact wm m w h he hs ho hcp hcb
  ·exact wh m w h he hs ho hcp hcb
  ·exact vT m w h he hs ho hcp hcb
 ·rw[if_neg he]
  exact wy m w he hs ho hcp hcb
theorem zJ (m:Mv) (w:World) (h1:m.tag≠1) (h2:m.tag≠2) (h3:m.tag≠3):
  Calls prog 72 #[.agg m.row] w fun r w'=>r= .returned (.int .i64 2)/\Below w.heap.size w w':=by
 obtain⟨W0,hW0,hb0,b0⟩:=gL w 42 m.row
 have q0:W0.cell? ⟨w.heap.size,0,none⟩=some (.int .u8 m.tag):=b0.cell 0
 have HW0:=KO hW0
 have HB0:=KO hb0
 clear hW0 hb0 b0
 by_cases i1:m.tag< 1
 ·clear h1 h2 h3
  go_enter func72,ntmps72
  go_upto_region 1 with fail
  rw[HW0.out]
  go_wp2_with fail
  go_ret
  exact⟨rfl,HB0.out⟩
 ·have i2:(3:Int)< m.tag:=by omega
  clear h1 h2 h3
  go_enter func72,ntmps72
  go_upto_region 1 with fail
  rw[HW0.out]
  go_wp2_with fail
  go_ret
  exact⟨rfl,HB0.out⟩
theorem Du (m:Mv) (w:World) (hs:MvAt w m) (ho:MvOk m):
  Calls prog 72 #[.agg m.row] w fun r w'=>r= .returned (.int .i64 (aV m))/\Below w.heap.size w w':=by
 by_cases ht:m.tag=1∨m.tag=2∨m.tag=3
 ·exact AY m w ht hs ho
 have:=zJ m w (fun h=>ht (.inl h)) (fun h=>ht (.inr (.inl h))) (fun h=>ht (.inr (.inr h)))
 have he:aV m=2:=by unfold aV;rw[if_neg ht]
 rw[he]
 exact this
theorem Bz (m:Mv) (w:World) (ht:m.tag=1) (hs:MvAt w m) (ho:MvOk m) (hm:bF m.ps=true):Calls prog 73 #[.agg m.row] w (dZ (bE m.ps) w):=by
 have tg1:(m.tag==1)=true:=by rw[ht];rfl
 have hc:=fun W (h:Below w.heap.size w W)=>pU m.pc m.ps W (hs.pma.below h) ho.pma hm
 obtain⟨L,hL⟩:∃L,bE m.ps=L:=⟨_,rfl⟩
 rw[hL]at hc ⊢
 have HC:=KO hc
 obtain⟨W0,hW0,hb0,b0⟩:=gL w 42 m.row
 have q0:W0.cell? ⟨w.heap.size,0,none⟩=some (.int .u8 m.tag):=b0.cell 0
 have HW0:=KO hW0
 have HB0:=KO hb0
 have HP0:=KO b0
 clear hW0 hb0 b0 hc hL ht hs ho hm
 go_enter func73,ntmps73
 go_upto_region 1 with fail
 rw[HW0.out]
 go_upto_region 2 with fail
 try dsimp only[]
 repeat (first|refine eX HP0.out 2 underlying31 bK rfl rfl rfl rfl ?_|go_values|go_skip|go_guarded|go_step|go_upon)
 refine(HC.out _ HB0.out).mono ?_
 rintro e w1 ⟨A1,c1,rfl,ho1,hb1⟩
 have HO1:=KO (av ho1 HB0.out.size)
 have HB1:=KO (aa HB0.out hb1)
 clear hb1 ho1 q0
 go_wp2_with fail
 go_ret
 exact⟨A1,c1,rfl,HO1.out,HB1.out⟩
theorem Av (m:Mv) (w:World) (ht:m.tag=2) (hs:MvAt w m) (ho:MvOk m) (hm:bF m.bs=true):Calls prog 73 #[.agg m.row] w (dZ (bE m.bs) w):=by
 have tg1:(m.tag==1)=false:=by rw[ht];rfl
 have tg2:(m.tag==2)=true:=by rw[ht];rfl
 have hc:=fun W (h:Below w.heap.size w W)=>pU m.bc m.bs W (hs.cob.below h) ho.cob hm
 obtain⟨L,hL⟩:∃L,bE m.bs=L:=⟨_,rfl⟩
 rw[hL]at hc ⊢
 have HC:=KO hc
 obtain⟨W0,hW0,hb0,b0⟩:=gL w 42 m.row
 have q0:W0.cell? ⟨w.heap.size,0,none⟩=some (.int .u8 m.tag):=b0.cell 0
 have HW0:=KO hW0
 have HB0:=KO hb0
 have HP0:=KO b0
 clear hW0 hb0 b0 hc hL ht hs ho hm
 go_enter func73,ntmps73
 go_upto_region 1 with fail
 rw[HW0.out]
 go_upto_region 4 with fail
 try dsimp only[]
 repeat (first|refine eX HP0.out 17 underlying31 bK rfl rfl rfl rfl ?_|go_values|go_skip|go_guarded|go_step|go_upon)
 refine(HC.out _ HB0.out).mono ?_
 rintro e w1 ⟨A1,c1,rfl,ho1,hb1⟩
 have HO1:=KO (av ho1 HB0.out.size)
 have HB1:=KO (aa HB0.out hb1)
 clear hb1 ho1 q0
 go_wp2_with fail
 go_ret
 exact⟨A1,c1,rfl,HO1.out,HB1.out⟩
theorem Be (m:Mv) (w:World) (ht:m.tag=3) (hs:MvAt w m) (ho:MvOk m) (hm:fE (aB m.lR)=0):Calls prog 73 #[.agg m.row] w (dZ (jK (aB m.lR)) w):=by
 have tg1:(m.tag==1)=false:=by rw[ht];rfl
 have tg2:(m.tag==2)=false:=by rw[ht];rfl
 have hc:=fun W (h:Below w.heap.size w W)=>vo m.lB m.lR m.lk m.lc m.ln W (RunsAt.below hs.log h) (by have:=ho.log;omega) (by have:=ho.log;omega) hm
 obtain⟨L,hL⟩:∃L,jK (aB m.lR)=L:=⟨_,rfl⟩
 rw[hL]at hc ⊢
 have HC:=KO hc
 obtain⟨W0,hW0,hb0,b0⟩:=gL w 42 m.row
 have q0:W0.cell? ⟨w.heap.size,0,none⟩=some (.int .u8 m.tag):=b0.cell 0
 have HW0:=KO hW0
 have HB0:=KO hb0
 have HP0:=KO b0
 clear hW0 hb0 b0 hc hL ht hs ho hm
 go_enter func73,ntmps73
 go_upto_region 1 with fail
 rw[HW0.out]
 go_upto_region 5 with fail
 try dsimp only[]
 repeat (first|refine eX HP0.out 35 underlying40 iq rfl rfl rfl rfl ?_|go_values|go_skip|go_guarded|go_step|go_upon)
 refine(HC.out _ HB0.out).mono ?_
 rintro e w1 ⟨A1,c1,rfl,ho1,hb1⟩
 have HO1:=KO (av ho1 HB0.out.size)
 have HB1:=KO (aa HB0.out hb1)
 clear hb1 ho1 q0
 go_wp2_with fail
 go_ret
 exact⟨A1,c1,rfl,HO1.out,HB1.out⟩
theorem CV (m:Mv) (w:World) (he:aV m=0) (hs:MvAt w m) (ho:MvOk m):Calls prog 73 #[.agg m.row] w (dZ (allM m) w):=by
 have hz:=(lF he).2
 rcases(lF he).1 with h|h|h
 ·have hz:fV m.pc m.ps=0:=by simpa[eD,h]using hz
  have:=Bz m w h hs ho (jD hz)
  have hal:allM m=bE m.ps:=by simp[allM,h]
  rw[hal];exact this
 ·have hz:fI m.bc m.bs m.bx=0:=by simpa[eD,h]using hz
  have:=Av m w h hs ho (jD (vR hz))
  have hal:allM m=bE m.bs:=by simp[allM,h]
  rw[hal];exact this
 ·have hz:jw m.lc (aB m.lR)=0:=by simpa[eD,h]using hz
  have:=Be m w h hs ho (lT hz).2.1
  have hal:allM m=jK (aB m.lR):=by simp[allM,h]
  rw[hal];exact this
theorem xk (m:Mv) (w:World) (hs:MvAt w m) (ho:MvOk m):Calls prog 56 #[.agg m.row] w (fP (if aV m=0 then allM m else[]) (aV m) w):=by
 have hck:=fun W (h:Below w.heap.size w W)=>Du m W (hs.below h) ho
 have hal:=fun(he:aV m=0) W (h:Below w.heap.size w W)=>CV m W he (hs.below h) ho
 obtain⟨E,hE⟩:∃E,aV m=E:=⟨_,rfl⟩
 obtain⟨L,hL⟩:∃L,allM m=L:=⟨_,rfl⟩
 rw[hE]at hck hal
 rw[hL]at hal
 rw[hE,hL]
 have HCK:=KO hck
 have HAL:=KO hal
 obtain⟨W0,hW0,hb0,b0⟩:=gL w 42 m.row
 have HW0:=KO hW0
 have HB0:=KO hb0
 have HP0:=KO b0
 clear hW0 hb0 b0 hck hal hE hL hs ho
 by_cases he:E=0
 ·rw[if_pos he]
  subst he
  have HAL2:=KO (HAL.out rfl)
  go_enter func56,ntmps56
  go_upto_region 1 with fail
  rw[HW0.out]
  try dsimp only[]
  repeat (first|refine eX HP0.out 0 underlying42 af rfl rfl rfl rfl ?_|go_values|go_skip|go_guarded|go_step|go_upon)
  refine(HCK.out _ HB0.out).mono ?_
  rintro e w1 ⟨rfl,hb1⟩
  have HB1:=KO (aa HB0.out hb1)
  have HP1:=KO (HP0.out.below hb1 HP0.out.lt)
  clear hb1 HB0 HP0
  go_upto_region 4 with fail
  try dsimp only[]
  repeat (first|refine eX HP1.out 0 underlying42 af rfl rfl rfl rfl ?_|go_values|go_skip|go_guarded|go_step|go_upon)
  refine(HAL2.out _ HB1.out).mono ?_
  rintro e w2 ⟨A1,c1,rfl,ho1,hb2⟩
  have HO1:=KO (av ho1 HB1.out.size)
  have HB2:=KO (aa HB1.out hb2)
  clear hb2 ho1
  go_wp2_with fail
  refine KV (v:= .tuple #[.slice A1 L.length c1,.int .i64 0]) (by simp[results,results56,go_sem]) rfl ?_
  exact⟨A1,c1,rfl,HO1.out,HB2.out⟩
 ·rw[if_neg he]
  go_enter func56,ntmps56
  go_upto_region 1 with fail
  rw[HW0.out]
  try dsimp only[]
  repeat (first|refine eX HP0.out 0 underlying42 af rfl rfl rfl rfl ?_|go_values|go_skip|go_guarded|go_step|go_upon)
  refine(HCK.out _ HB0.out).mono ?_
  rintro e w1 ⟨rfl,hb1⟩
  have HB1:=KO (aa HB0.out hb1)
  clear hb1 HB0
  go_wp2_with fail
  refine KV (v:= .tuple #[.slice none 0 0,.int .i64 E]) (by simp[results,results56,go_sem]) rfl ?_
  exact⟨none,0,rfl,yh _ _ _,HB1.out⟩
theorem gM (m:Mv) (w:World) (hs:MvAt w m) (ho:MvOk m):Calls prog 32 #[.agg m.row] w (fP (if aV m=0 then allM m else[]) (aV m) w):=by
 have hck:=fun W (h:Below w.heap.size w W)=>xk m W (hs.below h) ho
 obtain⟨E,hE⟩:∃E,aV m=E:=⟨_,rfl⟩
 obtain⟨L,hL⟩:∃L,(if aV m=0 then allM m else[])=L:=⟨_,rfl⟩
 rw[hL]at hck ⊢
 rw[hE]at hck ⊢
 have HCK:=KO hck
 obtain⟨W0,hW0,hb0,b0⟩:=gL w 42 m.row
 have HW0:=KO hW0
 have HB0:=KO hb0
 have HP0:=KO b0
 clear hW0 hb0 b0 hck hE hL hs ho
 go_enter func32,ntmps32
 go_upto_region 1 with fail
 rw[HW0.out]
 try dsimp only[]
 repeat (first|refine eX HP0.out 0 underlying42 af rfl rfl rfl rfl ?_|go_values|go_skip|go_guarded|go_step|go_upon)
 refine(HCK.out _ HB0.out).mono ?_
 rintro e w1 ⟨A1,c1,rfl,ho1,hb1⟩
 have HO1:=KO (av ho1 HB0.out.size)
 have HB1:=KO (aa HB0.out hb1)
 clear hb1 HB0 ho1
 go_wp2_with fail
 refine KV (v:= .tuple #[.slice A1 L.length c1,.int .i64 E]) (by simp[results,results32,go_sem]) rfl ?_
 exact⟨A1,c1,rfl,HO1.out,HB1.out⟩
theorem sQ:(prog.info? 55).map (fun i=>(i.zero,i.size,i.bytes))=some (some (.agg #[.int .i64 0,.int .i64 0]),2,16):=by kernel_rfl
theorem qM (l:List Pr):∀u∈l.flatMap Pr.cells,u.oneCell'=true:=by
 intro u hu;obtain⟨e,_,he⟩:=List.mem_flatMap.1 hu;simp[Pr.cells]at he;rcases he with rfl|rfl <;> rfl
theorem Cb (A:Option Addr) (n c:Nat) (w:World):(binOp .eql 47 (.slice A n c) (.slice none 0 0)).run prog w= .ok (.bool A.isNone) w:=Lib.run_eql_slice_nil w _ _ A n c _ _ underlying47
def Hw (l:List Pr) (w:World) (r:Ending) (w':World):Prop:=∃A c,r= .returned (.slice A l.length c)/\Fr w' w.heap.size 55 A c l/\Below w.heap.size w w'
theorem El (A:Option Addr) (l:List Pr) (c:Nat) (w:World) (hA:Sl w A (l.flatMap Pr.cells)) (hl:l.length<=1000000):
  Calls prog 70 #[.slice A l.length c] w (Hw l w):=by
 obtain⟨i0,hi,hz0,hz1,hz2⟩:=LU sQ
 have hn:=Cb A l.length c w
 cases A with
 |none=>
  have hnil:l=[]:=by
   rcases hA with h|⟨b,off,h,_⟩
   ·cases l with
    |nil=>rfl
    |cons a l=>simp[Pr.cells]at h
   ·cases h
  subst hnil
  have hn2:∀n,(binOp .eql 47 (.slice none n c) (.slice none 0 0)).run prog w= .ok (.bool true) w:=fun n=>Cb none n c w
  clear hn
  go_enter func70,ntmps70
  go_wp2
  go_ret
  exact⟨none,0,rfl,Fr.nil,KR _ _⟩
 |some a=>
  have hb0:Below w.heap.size w (w.alloc (.cells #[] 55)):=(KR _ _).alloc (KS _) _
  have hown0:(w.alloc (.cells #[] 55)).ownsRow w.heap.size 55 2 (.slice (some ⟨w.heap.size,0,none⟩) 0 0) 0 []:=World.ownsRow_made w #[] 0 (KS _) (K8 _) rfl
  go_enter func70,ntmps70
  go_wp2_with (at_builtin;refine ag _ rfl (.tmp 5) (.tmp 6) _ rfl w.heap.size 55 i0 _ 2 16 underlying47 hi hz0 hz1 hz2 rfl (by omega) (.slice (some ⟨w.heap.size,0,none⟩) 0 0) 0 [] rfl hown0 (some a) l.length c (l.flatMap Pr.cells) rfl (hA.below hb0) (dG l) (qM l) (by unfold maxLen;omega) (by omega) (by simp) ?_;intro v1 w1 hown1 hg1;simp only[Nat.zero_add,List.nil_append]at hown1;obtain⟨A1,c1,rfl,hlc1,hcm1⟩:=ak hown1)
  go_ret
  exact⟨A1,c1,rfl,Fr.of_own hown1 rfl,hb0.grown hg1 (by simp) (fun k hk=>(hown0.lt k hk).1)⟩
theorem GU {l:List Pr} {k:Nat} (h:k< l.length) (key:Int):bel (l.take (k+1)) key=bel (l.take k) key+(if (l[k]'h).key< key then 1 else 0):=by
 unfold bel
 rw[List.take_succ_eq_append_getElem h,List.countP_append,List.countP_cons,List.countP_nil]
 simp
theorem nL (A:Option Addr) (l:List Pr) (c:Nat) (key:Int) (w:World) (hA:Sl w A (l.flatMap Pr.cells)) (hl:l.length<=4611686018427387903):
  Calls prog 35 #[.slice A l.length c,.int .i64 key] w fun r w'=>r= .returned (.int .i64 (bel l key))/\Below w.heap.size w w':=by
 go_enter func35,ntmps35
 go_wp2
 go_loopw [5,6] (fun n i wr=>∃k:Nat,k<=l.length/\i= .int .i64 k/\n= .int .i64 (bel (l.take k) key)/\Below w.heap.size w wr) (fun _ i _=>l.length-(intOf i).toNat)
 case atStart=>exact⟨0,K8 _,rfl,rfl,KR _ _⟩
 case round=>
  obtain⟨k,hk,rfl,rfl,hb⟩:=hrel
  have hle:=kP (l.take k) key
  have hlt':(l.take k).length<=k:=List.length_take_le _ _
  by_cases hlt:k< l.length
  ·obtain⟨b,off,rfl,hbl,c1,c2⟩:=hA.prB hb k hlt
   have i0:(0:Int)<=(k:Int):=by omega
   have i1:(k:Int)< (l.length:Int):=by omega
   have hs:=GU hlt key
   generalize (l[k]'hlt)=p at*
   clear hA c2
   by_cases hx:p.key< key
   ·rw[if_pos hx]at hs
    have HS:=KO hs
    clear hs
    go_wp2
    go_roundw
    case rel=>exact⟨k+1,by omega,by go_num,by rw[HS.out];go_num,hb⟩
    case measure=>simp[intOf];omega
   ·rw[if_neg hx]at hs
    have HS:=KO hs
    clear hs
    go_wp2
    go_roundw
    case rel=>exact⟨k+1,by omega,by go_num,by rw[HS.out];rfl,hb⟩
    case measure=>simp[intOf];omega
  ·go_wp2
   go_ret
   exact⟨aJ (by rw[List.take_of_length_le (by omega)]),hb⟩
def IQ (p:Pr) (b:Bool) (w:World) (r:Ending) (w':World):Prop:=r= .returned (.tuple #[.agg #[.int .i64 p.key,.int .i64 p.val],.bool b])/\Below w.heap.size w w'
def yM (l:List Pr) (key:Int):Pr:=if bel l key< l.length then l[bel l key]! else⟨0,0⟩
def yI (l:List Pr) (key:Int):Bool:=decide (bel l key< l.length)
theorem Jq (A:Option Addr) (l:List Pr) (c:Nat) (key:Int) (w:World) (hA:Sl w A (l.flatMap Pr.cells)) (hl:l.length<=4611686018427387903) (hr:Hid (Ris l)):
  Calls prog 78 #[.slice A l.length c,.int .i64 key] w (IQ (yM l key) (yI l key) w):=by
 have hb0:Below w.heap.size w (w.alloc (.cells #[.int .i64 0,.int .i64 0] 55)):=(KR _ _).alloc (KS _) _
 have bN:=Blk.new w 55 #[.int .i64 0,.int .i64 0]
 go_enter func78,ntmps78
 go_wp2_with fail
 obtain⟨W,hW⟩:∃W,w.alloc (.cells #[.int .i64 0,.int .i64 0] 55)=W:=⟨_,rfl⟩
 rw[hW]at hb0 bN
 try rw[hW]
 clear hW
 go_loopw [6] (fun i wr=>∃k:Nat,k<=l.length/\i= .int .i64 k/\Below W.heap.size W wr/\k<=bel l key) (fun i _=>l.length-(intOf i).toNat)
 case atStart=>exact⟨0,K8 _,rfl,KR _ _,K8 _⟩
 case round=>
  obtain⟨k,hk,rfl,hb,hkb⟩:=hrel
  have bNr:=bN.below hb bN.lt
  have g0:wr.cell? ⟨w.heap.size,0,none⟩=some (.int .i64 0):=bNr.cell 0
  have g1:wr.cell? ⟨w.heap.size,1,none⟩=some (.int .i64 0):=bNr.cell 1
  have f0:wr.frozen? ⟨w.heap.size,0,none⟩=false:=bNr.frozen 0
  have f1:wr.frozen? ⟨w.heap.size,1,none⟩=false:=bNr.frozen 1
  have hb2:∀x y:Value,Below w.heap.size w ((wr.setCell ⟨w.heap.size,0,none⟩ x).setCell ⟨w.heap.size,1,none⟩ y):=fun x y=>
   ((hb0.trans (hb.mono hb0.size)).setCell (p:=⟨w.heap.size,0,none⟩) (KS _) x).setCell (p:=⟨w.heap.size,1,none⟩) (KS _) y
  have e2:∀x y:Value,Blk ((wr.setCell ⟨w.heap.size,0,none⟩ x).setCell ⟨w.heap.size,1,none⟩ y) w.heap.size 55 #[x,y]:=fun x y=>(bNr.set_ 0 x).set_ 1 y
  have hb2:=KO hb2
  have e2:=KO e2
  by_cases hlt:k< l.length
  ·obtain⟨b,off,rfl,hbl,c1,c2⟩:=(hA.below hb0).prB hb k hlt
   have i0:(0:Int)<=(k:Int):=by omega
   have i1:(k:Int)< (l.length:Int):=by omega
   have hbi:=wD hr.out key k hlt
   by_cases hx:(l[k]'hlt).key< key
   ·have hkb2:k+1<=bel l key:=hbi.1 hx
    clear hbi hA
    go_wp2
    go_roundw
    case rel=>exact⟨k+1,by omega,by go_num,hb,hkb2⟩
    case measure=>simp[intOf];omega
   ·have hkb2:bel l key=k:=by have:=mt hbi.2 hx;omega
    have hP:yM l key=l[k]'hlt:=by unfold yM;rw[hkb2,if_pos hlt,getElem!_pos l k hlt]
    have hB:yI l key=true:=by unfold yI;rw[hkb2];exact decide_eq_true hlt
    rw[hP,hB]
    generalize (l[k]'hlt)=p at*
    clear hbi hA hkb2 hP hB
    go_wp2_with fail
    have e:=e2.out (.int .i64 p.key) (.int .i64 p.val)
    have h0:=e.cell 0
    have h1:=e.cell 1
    refine KV (v:= .tuple #[.agg #[.int .i64 p.key,.int .i64 p.val],.bool true]) (by simp[results,results78,go_sem,h0,h1]) rfl ?_
    exact⟨rfl,hb2.out _ _⟩
  ·have hkb2:¬bel l key< l.length:=by omega
   have hP:yM l key=⟨0,0⟩:=by unfold yM;rw[if_neg hkb2]
   have hB:yI l key=false:=by unfold yI;exact decide_eq_false hkb2
   rw[hP,hB]
   clear hA
   go_wp2_with fail
   have e:=e2.out (.int .i64 0) (.int .i64 0)
   have h0:=e.cell 0
   have h1:=e.cell 1
   refine KV (v:= .tuple #[.agg #[.int .i64 0,.int .i64 0],.bool false]) (by simp[results,results78,go_sem,h0,h1]) rfl ?_
   exact⟨by rw[hP,hB],hb2.out _ _⟩
theorem ku (n:Int) (w:World):Calls prog 34 #[.int .i64 n] w fun r w'=>r= .returned (.bool (decide (0<=n/\n<=1000)))/\Below w.heap.size w w':=by
 go_enter func34,ntmps34
 by_cases h1:0<=n
 ·by_cases h2:n<=1000
  ·go_wp2
   go_ret
   exact⟨aC (by simp[h1,h2]),KR _ _⟩
  ·go_wp2
   go_ret
   exact⟨aC (by simp[h2]),KR _ _⟩
 ·go_wp2
  go_ret
  exact⟨aC (by simp;omega),KR _ _⟩
structure Cu where
 ver:Int
 on:Bool
 key:Int
abbrev Cu.row (c:Cu):Array Value:=#[.int .u64 c.ver,.bool c.on,.int .i64 c.key]
def tQ:Cu:=⟨0,false,0⟩
def sW (ver:Int) (l:List Pr) (k:Int):Cu:=if 0<=k/\k< l.length then⟨ver,true,(l[k.toNat]!).key⟩else tQ
def zx (l:List Pr) (k:Int):Int:=if 0<=k/\k< l.length then 0 else 6
def dA (m:Mv) (c:Cu):Int:=if aV m=0 then(if c.ver=m.ver then(if c.on=true then 0 else 2)else 300)else aV m
abbrev jH (v:Int) (on:Bool) (k:Int) (A:Option Addr) (l:List Pr) (c:Nat):Array Value:=#[.int .u64 v,.bool on,.int .i64 k,.slice A l.length c]
def Gt (a:Answ) (e:Int) (b:Bool) (w:World) (r:Ending) (w':World):Prop:=
 ∃A c,r= .returned (.tuple #[.agg #[.int .i64 a.pair.key,.int .i64 a.pair.val,.int .i64 a.n,.slice A a.pairs.length c],.int .i64 e,.bool b])/\Fr w' w.heap.size 55 A c a.pairs/\Below w.heap.size w w'
theorem four {w:World} {b:Nat} {t:TypeId} {x0 x1 x2 x3:Value} (h:Blk w b t #[x0,x1,x2,x3]) (y0 y1 y2 y3:Value):
  Blk ((((w.setCell ⟨b,0,none⟩ y0).setCell ⟨b,1,none⟩ y1).setCell ⟨b,2,none⟩ y2).setCell ⟨b,3,none⟩ y3) b t #[y0,y1,y2,y3]:=by
 have:=(((h.set_ 0 y0).set_ 1 y1).set_ 2 y2).set_ 3 y3
 simpa using this
theorem Ji {w w':World} {B b:Nat} (h:Below B w w') (hb:B<=b) (y0 y1 y2 y3:Value):
  Below B w ((((w'.setCell ⟨b,0,none⟩ y0).setCell ⟨b,1,none⟩ y1).setCell ⟨b,2,none⟩ y2).setCell ⟨b,3,none⟩ y3):=
 (((h.setCell (p:=⟨b,0,none⟩) hb _).setCell (p:=⟨b,1,none⟩) hb _).setCell (p:=⟨b,2,none⟩) hb _).setCell (p:=⟨b,3,none⟩) hb _
theorem Ke {w:World} {g:Nat} {t:TypeId} {cs:Array Value} (h:g=w.heap.size):Blk (w.alloc (.cells cs t)) g t cs:=h ▸ Blk.new w t cs
theorem xc (A:Option Addr) (l:List Pr) (c:Nat) (key:Int) (w:World) (hA:Sl w A (l.flatMap Pr.cells)) (hl:l.length<=1000000) (hr:Hid (Ris l)):
  Calls prog 69 #[.slice A l.length c,.agg #[.int .u8 8,.int .i64 key,.int .i64 0,.int .i64 0,.int .i64 0,.slice none 0 0]] w (Gt ⟨⟨0,0⟩,bel l key,[]⟩ 0 true w):=by
 obtain⟨W0,hW0⟩:∃W,((w.alloc (.cells #[.slice A l.length c] 47)).alloc (.cells #[.int .u8 8,.int .i64 key,.int .i64 0,.int .i64 0,.int .i64 0,.slice none 0 0] 113)).alloc (.cells #[.int .i64 0,.int .i64 0,.int .i64 0,.slice none 0 0] 109)=W:=⟨_,rfl⟩
 have hb0:Below w.heap.size w W0:=by rw[<-hW0];exact(((KR _ _).alloc (KS _) _).alloc (by simp) _).alloc (by simp;omega) _
 have b1:Blk W0 w.heap.size 47 #[.slice A l.length c]:=by rw[<-hW0];exact((Blk.new _ _ _).alloc _).alloc _
 have b2:Blk W0 (w.heap.size+1) 113 #[.int .u8 8,.int .i64 key,.int .i64 0,.int .i64 0,.int .i64 0,.slice none 0 0]:=by rw[<-hW0];exact(Ke (by simp)).alloc _
 have b3:Blk W0 (w.heap.size+1+1) 109 #[.int .i64 0,.int .i64 0,.int .i64 0,.slice none 0 0]:=by rw[<-hW0];exact Ke (by simp)
 have hmf:∀(fn:Fn) (first cap:Array Value) (w:World),(Instr.makeFunc fn first cap).run prog w= .ok (.func fn first cap) w:=fun _ _ _ _=>rfl
 have q1:=b1.cell
 have q2:=b2.cell
 have HRK:=KO (ET A l c key W0 (hA.below hb0) (by omega) hr)
 have HW0:=KO hW0
 have HB0:=KO hb0
 have H1:=KO b1
 have H2:=KO b2
 have H3:=KO b3
 obtain⟨K,hK⟩:∃K,bel l key=K:=⟨_,rfl⟩
 rw[hK]at HRK ⊢
 clear hW0 hb0 b1 b2 b3 hK hA hl hr
 go_enter func69,ntmps69
 go_upto_region 1 with fail
 rw[HW0.out]
 go_wp2_with fail
 refine HRK.out.mono ?_
 rintro e w1 ⟨rfl,hb1⟩
 have b1:=H1.out.below hb1 H1.out.lt
 have b2:=H2.out.below hb1 H2.out.lt
 have b3:=H3.out.below hb1 H3.out.lt
 have q1:=b1.cell
 have q2:=b2.cell
 have q3:=b3.cell
 have r3:=b3.frozen
 have l3:=b3.lt
 have HB1:=KO (aa HB0.out hb1)
 have HZ:=KO (four b3 (.int .i64 0) (.int .i64 0) (.int .i64 K) (.slice none 0 0))
 have HBZ:=KO (Ji HB1.out (show w.heap.size<=w.heap.size+1+1 by omega) (.int .i64 0) (.int .i64 0) (.int .i64 K) (.slice none 0 0))
 clear b1 b2 b3 hb1
 go_wp2_with fail
 have pp:=HZ.out.cell
 refine KV (v:= .tuple #[.agg #[.int .i64 0,.int .i64 0,.int .i64 K,.slice none 0 0],.int .i64 0,.bool true]) (by simp[results,results69,go_sem,pp]) rfl ?_
 exact⟨none,0,rfl,Fr.nil,HBZ.out⟩
theorem zW (A:Option Addr) (l:List Pr) (c:Nat) (key:Int) (w:World) (hA:Sl w A (l.flatMap Pr.cells)) (hl:l.length<=16384) (hr:Ris l):
  Calls prog 54 #[.int .i64 16384,.slice A l.length c,.agg #[.int .u8 8,.int .i64 key,.int .i64 0,.int .i64 0,.int .i64 0,.slice none 0 0]] w fun r w'=>(∃B d A2 c2,r= .returned (.tuple #[.slice B l.length d,.agg #[.int .i64 0,.int .i64 0,.int .i64 (bel l key),.slice A2 0 c2],.int .i64 0])/\Below w.heap.size w w'):=by
 obtain⟨W0,hW0,hb0,b5,b7⟩:=yN w 113 #[.int .u8 8,.int .i64 key,.int .i64 0,.int .i64 0,.int .i64 0,.slice none 0 0] 109 #[.int .i64 0,.int .i64 0,.int .i64 0,.slice none 0 0]
 have hck:=xD 16384 A l c W0 (hA.below hb0) (by omega)
 have h1:kF 16384 l=0:=by
  unfold kF
  rw[if_neg (by omega),if_neg (by rintro(h|h);omega;exact h hr)]
 rw[h1]at hck
 have HCK:=KO hck
 have HAK:=KO (fun W (h:Below w.heap.size w W)=>xc A l c key W (hA.below h) (by omega) (KO hr))
 have HCL:=KO (fun W (h:Below w.heap.size w W)=>El A l c W (hA.below h) (by omega))
 obtain⟨K,hK⟩:∃K,bel l key=K:=⟨_,rfl⟩
 rw[hK]at HAK ⊢
 have HW0:=KO hW0
 have HB0:=KO hb0
 have H5:=KO b5
 have H7:=KO b7
 clear hW0 hb0 b5 b7 hck h1 hK hA hl hr
 go_enter func54,ntmps54
 go_upto_region 1 with fail
 rw[HW0.out]
 go_wp2_with fail
 refine HCK.out.mono ?_
 rintro e w1 ⟨rfl,hb1⟩
 have HB1:=KO (aa HB0.out hb1)
 have H51:=KO (H5.out.below hb1 H5.out.lt)
 have H71:=KO (H7.out.below hb1 H7.out.lt)
 have q5:=H51.out.cell
 clear hb1
 go_wp2_with fail
 refine(HAK.out _ HB1.out).mono ?_
 rintro e w2 ⟨A2,c2,rfl,hf,hb2⟩
 have HB2:=KO (aa HB1.out hb2)
 have H72:=KO (H71.out.below hb2 H71.out.lt)
 clear q5 hb2 hf
 go_upto_region 6 with fail
 obtain⟨W4,hW4⟩:∃W,w2.alloc (.cells #[.int .i64 0,.int .i64 0,.int .i64 K,.slice A2 0 c2] 109)=W:=⟨_,rfl⟩
 have b4:Blk W4 w2.heap.size 109 #[.int .i64 0,.int .i64 0,.int .i64 K,.slice A2 0 c2]:=by rw[<-hW4];exact Blk.new _ _ _
 have hb4:Below w2.heap.size w2 W4:=by rw[<-hW4];exact(KR _ _).alloc (KS _) _
 have HB4:=KO (aa HB2.out hb4)
 have H7:=KO (H72.out.below hb4 H72.out.lt)
 have q4:=b4.cell
 have lg:=b4.lt
 rw[hW4]
 clear hW4 b4 hb4
 refine aK (by kernel_rfl) 4 [.v [] fun v=>v 0= .slice A l.length c,.v [0] fun v=>∃B d,v 1= .slice B l.length d,.v [] fun v=>v 2= .agg #[.int .i64 0,.int .i64 0,.int .i64 K,.slice A2 0 c2],.v [1] fun v=>∃B d,v 3= .slice B l.length d] [2,3] rfl rfl (by kernel_rfl) (by kernel_rfl) ⟨_,fun v=>by simp only[ou,Act.put,Lg,LC,LK];rfl,?_⟩
 simp only[iQ,oZ,dO,dV,gT,nC,dX,Lt,MF,MK,Lb,La,TEnt.v,TEnt.w,RB,RM,MZ,M8,decide_true,decide_false,Mj,Ms,LD,LF,if_true,if_false,↓reduceIte,Ll,List.length_cons,List.length_nil]
 refine⟨?_,?_,?_,?_,fun v W hb=>?_⟩
 all_goals try intro v W K hb hK
 all_goals have hc:=(aO hb).1
 all_goals try (go_wp2_with fail;exact hK _ _ (KR _ _) rfl)
 ·intro h0
  rw[h0]at hK ⊢
  go_wp2_with (go_at_call 70;refine(HCL.out _ (aa HB4.out hb)).mono ?_;rintro e1 W1 ⟨B,d,rfl,hf,hb1⟩)
  exact hK _ _ hb1 ⟨_,_,rfl⟩
 ·intro h1
  obtain⟨B,d,h1⟩:=h1
  rw[h1]at hK ⊢
  go_wp2_with fail
  exact hK _ _ (KR _ _) ⟨_,_,rfl⟩
 intro h2 h3
 obtain⟨B,d,h3⟩:=h3
 rw[h2,h3]
 have q:=(H7.out.below hb H7.out.lt).cell
 have r:=(H7.out.below hb H7.out.lt).frozen
 have l7:=(H7.out.below hb H7.out.lt).lt
 have HZ:=KO (four (H7.out.below hb H7.out.lt) (.int .i64 0) (.int .i64 0) (.int .i64 K) (.slice A2 0 c2))
 have HBZ:=KO (Ji (aa HB4.out hb) (show w.heap.size<=w.heap.size+1 by omega) (.int .i64 0) (.int .i64 0) (.int .i64 K) (.slice A2 0 c2))
 clear hc q4 lg hb h2 h3
 try simp only[oZ]
 refine KT rfl fun K1 hK1=>?_
 go_wp2_with fail
 try refine hK1 _ _ ?_
 refine KT rfl fun K2 hK2=>?_
 go_wp2_with fail
 try refine hK2 _ _ ?_
 try go_wp2_with fail
 have pp:=HZ.out.cell
 refine KV (v:= .tuple #[.slice B l.length d,.agg #[.int .i64 0,.int .i64 0,.int .i64 K,.slice A2 0 c2],.int .i64 0]) (by simp[results,results54,go_sem,pp]) rfl ?_
 exact⟨⟨B,d,A2,c2,rfl⟩,HBZ.out⟩
theorem rq (gp:Nat) (v:Int) (on:Bool) (k:Int) (A:Option Addr) (l:List Pr) (c:Nat) (key:Int) (w:World) (hp:Blk w gp 82 (jH v on k A l c)) (hA:Sl w A (l.flatMap Pr.cells)) (hlc:l.length<=c) (hl:l.length<=16384) (hr:Ris l):
  Calls prog 30 #[.pointer (some ⟨gp,0,none⟩),.int .i64 key] w fun r w'=>r= .returned (.int .i64 (bel l key))/\Below w.heap.size w w':=by
 have hdo:=zW A l c key w hA hl hr
 obtain⟨K,hK⟩:∃K,bel l key=K:=⟨_,rfl⟩
 rw[hK]at hdo ⊢
 have HDO:=KO hdo
 have p3:w.cell? ⟨gp,3,none⟩=some (.slice A l.length c):=hp.cell 3
 clear hdo hK hp hA hlc hl hr
 go_enter func30,ntmps30
 go_wp2_with fail
 refine HDO.out.mono ?_
 rintro e w1 ⟨A1,c1,A2,c2,rfl,hb1⟩
 have HB1:=KO hb1
 clear hb1 p3
 go_wp2_with fail
 go_ret
 exact⟨rfl,HB1.out.alloc HB1.out.size _⟩
theorem J6 (gp:Nat) (v:Int) (on:Bool) (k:Int) (A:Option Addr) (l:List Pr) (c:Nat) (j:Int) (w:World) (hp:Blk w gp 82 (jH v on k A l c)) (hj:¬(0<=j/\j< l.length)):
  Calls prog 44 #[.pointer (some ⟨gp,0,none⟩),.int .i64 j] w fun r w'=>r= .returned (.tuple #[.agg tQ.row,.int .i64 6])/\Below w.heap.size w w':=by
 have p3:w.cell? ⟨gp,3,none⟩=some (.slice A l.length c):=hp.cell 3
 have lp:=hp.lt
 have hbz:∀x y z:Value,Below w.heap.size w ((((w.alloc (.cells #[.int .u64 0,.bool false,.int .i64 0] 44)).setCell ⟨w.heap.size,0,none⟩ x).setCell ⟨w.heap.size,1,none⟩ y).setCell ⟨w.heap.size,2,none⟩ z):=fun x y z=>((((KR _ _).alloc (KS _) _).setCell (p:=⟨w.heap.size,0,none⟩) (KS _) x).setCell (p:=⟨w.heap.size,1,none⟩) (KS _) y).setCell (p:=⟨w.heap.size,2,none⟩) (KS _) z
 have hb0:Below w.heap.size w (w.alloc (.cells #[.int .u64 0,.bool false,.int .i64 0] 44)):=(KR _ _).alloc (KS _) _
 have HBZ:=KO hbz
 have HB0:=KO hb0
 clear hbz hb0 hp
 by_cases h0:j< 0
 ·clear hj
  go_enter func44,ntmps44
  go_wp2_with fail
  refine KV (v:= .tuple #[.agg #[.int .u64 0,.bool false,.int .i64 0],.int .i64 6]) (by simp[results,results44,go_sem]) rfl ?_
  first|exact⟨rfl,HB0.out⟩|exact⟨rfl,HBZ.out _ _ _⟩
 ·have h1:(l.length:Int)<=j:=by omega
  clear hj
  go_enter func44,ntmps44
  go_wp2_with fail
  refine KV (v:= .tuple #[.agg #[.int .u64 0,.bool false,.int .i64 0],.int .i64 6]) (by simp[results,results44,go_sem]) rfl ?_
  first|exact⟨rfl,HB0.out⟩|exact⟨rfl,HBZ.out _ _ _⟩
theorem Jm (gp:Nat) (v:Int) (on:Bool) (k:Int) (A:Option Addr) (l:List Pr) (c:Nat) (j:Nat) (w:World) (hp:Blk w gp 82 (jH v on k A l c)) (hA:Sl w A (l.flatMap Pr.cells)) (hj:j< l.length) (hn:∀a,A=some a->a.block≠gp):
  Calls prog 44 #[.pointer (some ⟨gp,0,none⟩),.int .i64 (j:Nat)] w fun r w'=>r= .returned (.tuple #[.agg #[.int .u64 v,.bool true,.int .i64 (l[j]'hj).key],.int .i64 0])/\Mod (fun b=>b=gp) w w'/\Blk w' gp 82 (jH v true (l[j]'hj).key A l c):=by
 obtain⟨b,off,rfl,hbl,c1,c2⟩:=hA.prB (KR _ w) j hj
 have nb:b≠gp:=hn _ rfl
 have p0:=hp.cell
 have f1:w.frozen? ⟨gp,1,none⟩=false:=hp.frozen 1
 have f2:w.frozen? ⟨gp,2,none⟩=false:=hp.frozen 2
 have lp:=hp.lt
 have i0:(0:Int)<=(j:Int):=by omega
 have i1:(j:Int)< (l.length:Int):=by omega
 have HP:=KO hp
 generalize (l[j]'hj)=p at*
 clear hA hn hj hp c2
 go_enter func44,ntmps44
 go_wp2_with fail
 have hm:Mod (fun b=>b=gp) w (((w.setCell ⟨gp,1,none⟩ (.bool true)).setCell ⟨gp,2,none⟩ (.int .i64 p.key)).alloc (.cells #[.int .u64 v,.bool true,.int .i64 p.key] 44)):=(((Mod.refl (fun b=>b=gp) w).setCell (p:=⟨gp,1,none⟩) rfl _).setCell (p:=⟨gp,2,none⟩) rfl _).ext ((KR _ _).alloc (KS _) _)
 have hb:Blk (((w.setCell ⟨gp,1,none⟩ (.bool true)).setCell ⟨gp,2,none⟩ (.int .i64 p.key)).alloc (.cells #[.int .u64 v,.bool true,.int .i64 p.key] 44)) gp 82 (jH v true p.key (some ⟨b,off,none⟩) l c):=by simpa using((HP.out.set_ 1 (.bool true)).set_ 2 (.int .i64 p.key)).alloc _
 refine KV (v:= .tuple #[.agg #[.int .u64 v,.bool true,.int .i64 p.key],.int .i64 0]) (by simp[results,results44,go_sem]) rfl ?_
 exact⟨rfl,hm,hb⟩
theorem Blk.set3 {w:World} {g:Nat} {t:TypeId} {x0 x1 x2:Value} (h:Blk w g t #[x0,x1,x2]) (y0 y1 y2:Value):Blk (((w.setCell ⟨g,0,none⟩ y0).setCell ⟨g,1,none⟩ y1).setCell ⟨g,2,none⟩ y2) g t #[y0,y1,y2]:=by simpa using((h.set_ 0 y0).set_ 1 y1).set_ 2 y2
def Jz (l:List Pr) (k:Int):Bool:=decide (0<=k/\k< l.length)
def I5 (l:List Pr) (k:Int):Pr:=if 0<=k/\k< l.length then l[k.toNat]! else⟨0,0⟩
def J5 (ver:Int) (p:Pr) (is:Bool):Cu:=if is=true then⟨ver,true,p.key⟩else tQ
def onE (is:Bool):Int:=if is=true then 0 else 6
theorem I8 (ver:Int) (l:List Pr) (k:Int):J5 ver (I5 l k) (Jz l k)=sW ver l k/\onE (Jz l k)=zx l k:=by
 unfold J5 onE I5 Jz sW zx
 by_cases h:0<=k/\k< l.length
 ·simp[h]
 ·simp[h]
theorem EM (A:Option Addr) (l:List Pr) (c:Nat) (k:Int) (w:World) (hA:Sl w A (l.flatMap Pr.cells)) (hl:l.length<=1000000):
  Calls prog 57 #[.slice A l.length c,.int .i64 k] w fun r w'=>r= .returned (.tuple #[.agg #[.int .i64 (I5 l k).key,.int .i64 (I5 l k).val],.bool (Jz l k)])/\Below w.heap.size w w':=by
 have hbz:∀x y:Value,Below w.heap.size w (((w.alloc (.cells #[.int .i64 0,.int .i64 0] 55)).setCell ⟨w.heap.size,0,none⟩ x).setCell ⟨w.heap.size,1,none⟩ y):=fun x y=>(((KR _ _).alloc (KS _) _).setCell (p:=⟨w.heap.size,0,none⟩) (KS _) x).setCell (p:=⟨w.heap.size,1,none⟩) (KS _) y
 have hba:∀x y:Value,Below w.heap.size w (w.alloc (.cells #[x,y] 55)):=fun x y=>(KR _ _).alloc (KS _) _
 have HBZ:=KO hbz
 have HBA:=KO hba
 clear hbz hba
 by_cases hk:0<=k/\k< l.length
 ·obtain⟨j,rfl⟩:∃j:Nat,k=(j:Int):=⟨k.toNat,by omega⟩
  have hj:j< l.length:=by omega
  have hP:I5 l (j:Int)=l[j]'hj:=by unfold I5;rw[if_pos hk,Int.toNat_natCast,getElem!_pos l j hj]
  have hB:Jz l (j:Int)=true:=decide_eq_true hk
  rw[hP,hB]
  obtain⟨b,off,rfl,hbl,c1,c2⟩:=hA.prB (KR _ w) j hj
  have i0:(0:Int)<=(j:Int):=by omega
  have i1:(j:Int)< (l.length:Int):=by omega
  generalize (l[j]'hj)=p at*
  clear hA hk hj hP hB
  go_enter func57,ntmps57
  go_wp2_with fail
  refine KV (v:= .tuple #[.agg #[.int .i64 p.key,.int .i64 p.val],.bool true]) (by simp[results,results57,go_sem]) rfl ?_
  first|exact⟨rfl,HBA.out _ _⟩|exact⟨rfl,HBZ.out _ _⟩
 ·have hP:I5 l k=⟨0,0⟩:=if_neg hk
  have hB:Jz l k=false:=decide_eq_false hk
  rw[hP,hB]
  clear hP hB hA
  by_cases h0:k< 0
  ·clear hk
   go_enter func57,ntmps57
   go_wp2_with fail
   refine KV (v:= .tuple #[.agg #[.int .i64 0,.int .i64 0],.bool false]) (by simp[results,results57,go_sem]) rfl ?_
   first|exact⟨rfl,HBA.out _ _⟩|exact⟨rfl,HBZ.out _ _⟩
  ·have h1:(l.length:Int)<=k:=by omega
   clear hk
   go_enter func57,ntmps57
   go_wp2_with fail
   refine KV (v:= .tuple #[.agg #[.int .i64 0,.int .i64 0],.bool false]) (by simp[results,results57,go_sem]) rfl ?_
   first|exact⟨rfl,HBA.out _ _⟩|exact⟨rfl,HBZ.out _ _⟩
theorem Es (m:Mv) (p:Pr) (w:World):
  Calls prog 58 #[.agg m.row,.agg #[.int .i64 p.key,.int .i64 p.val],.bool true] w fun r w'=>r= .returned (.tuple #[.agg (J5 m.ver p true).row,.int .i64 (onE true)])/\Below w.heap.size w w':=by
 obtain⟨W0,hW0⟩:∃W,(((w.alloc (.cells m.row 42)).alloc (.cells #[.int .i64 p.key,.int .i64 p.val] 55)).alloc (.cells #[.int .u64 0,.bool false,.int .i64 0] 44))=W:=⟨_,rfl⟩
 have hb0:Below w.heap.size w W0:=by rw[<-hW0];exact((((KR _ _).alloc (by first|exact KS _|(simp;done)|(simp;omega)) _).alloc (by first|exact KS _|(simp;done)|(simp;omega)) _).alloc (by first|exact KS _|(simp;done)|(simp;omega)) _)
 have bq0:Blk W0 w.heap.size 42 m.row:=by rw[<-hW0];exact(((Blk.new _ _ _).alloc _).alloc _)
 have HQ0:=KO bq0
 have bq1:Blk W0 (w.heap.size+1) 55 #[.int .i64 p.key,.int .i64 p.val]:=by rw[<-hW0];exact((aj (by simp)).alloc _)
 have HQ1:=KO bq1
 have bq2:Blk W0 (w.heap.size+2) 44 #[.int .u64 0,.bool false,.int .i64 0]:=by rw[<-hW0];exact(aj (by simp))
 have HQ2:=KO bq2
 have HW0:=KO hW0
 have HB0:=KO hb0
 clear hW0 hb0 bq0 bq1 bq2
 have a1:W0.cell? ⟨w.heap.size,1,none⟩=some (.int .u64 m.ver):=HQ0.out.cell 1
 have b0:W0.cell? ⟨(w.heap.size+1),0,none⟩=some (.int .i64 p.key):=HQ1.out.cell 0
 have b1:W0.cell? ⟨(w.heap.size+1),1,none⟩=some (.int .i64 p.val):=HQ1.out.cell 1
 have d0:=HQ2.out.cell
 have f0:=HQ2.out.frozen
 have hbz:∀x y z:Value,Below w.heap.size w (((W0.setCell ⟨w.heap.size+2,0,none⟩ x).setCell ⟨w.heap.size+2,1,none⟩ y).setCell ⟨w.heap.size+2,2,none⟩ z):=fun x y z=>((HB0.out.setCell (p:=⟨w.heap.size+2,0,none⟩) (by show w.heap.size<=w.heap.size+2;omega) x).setCell (p:=⟨w.heap.size+2,1,none⟩) (by show w.heap.size<=w.heap.size+2;omega) y).setCell (p:=⟨w.heap.size+2,2,none⟩) (by show w.heap.size<=w.heap.size+2;omega) z
 have HBZ:=KO hbz
 clear hbz
 go_enter func58,ntmps58
 go_upto_region 1 with fail
 rw[HW0.out]
 go_wp2_with fail
 have hR:=KO (HQ2.out.set3 (.int .u64 m.ver) (.bool true) (.int .i64 p.key))
 have e0:=hR.out.cell
 simp only[LG,Lb,La]at e0
 refine KV (v:= .tuple #[.agg #[.int .u64 m.ver,.bool true,.int .i64 p.key],.int .i64 0]) (by simp[results,results58,go_sem,(e0 0),(e0 1),(e0 2)]) rfl ?_
 exact⟨rfl,HBZ.out _ _ _⟩
theorem zR (m:Mv) (p:Pr) (w:World):
  Calls prog 58 #[.agg m.row,.agg #[.int .i64 p.key,.int .i64 p.val],.bool false] w fun r w'=>r= .returned (.tuple #[.agg (J5 m.ver p false).row,.int .i64 (onE false)])/\Below w.heap.size w w':=by
 obtain⟨W0,hW0⟩:∃W,(((w.alloc (.cells m.row 42)).alloc (.cells #[.int .i64 p.key,.int .i64 p.val] 55)).alloc (.cells #[.int .u64 0,.bool false,.int .i64 0] 44))=W:=⟨_,rfl⟩
 have hb0:Below w.heap.size w W0:=by rw[<-hW0];exact((((KR _ _).alloc (by first|exact KS _|(simp;done)|(simp;omega)) _).alloc (by first|exact KS _|(simp;done)|(simp;omega)) _).alloc (by first|exact KS _|(simp;done)|(simp;omega)) _)
 have bq0:Blk W0 w.heap.size 42 m.row:=by rw[<-hW0];exact(((Blk.new _ _ _).alloc _).alloc _)
 have HQ0:=KO bq0
 have bq1:Blk W0 (w.heap.size+1) 55 #[.int .i64 p.key,.int .i64 p.val]:=by rw[<-hW0];exact((aj (by simp)).alloc _)
 have HQ1:=KO bq1
 have bq2:Blk W0 (w.heap.size+2) 44 #[.int .u64 0,.bool false,.int .i64 0]:=by rw[<-hW0];exact(aj (by simp))
 have HQ2:=KO bq2
 have HW0:=KO hW0
 have HB0:=KO hb0
 clear hW0 hb0 bq0 bq1 bq2
 have a1:W0.cell? ⟨w.heap.size,1,none⟩=some (.int .u64 m.ver):=HQ0.out.cell 1
 have b0:W0.cell? ⟨(w.heap.size+1),0,none⟩=some (.int .i64 p.key):=HQ1.out.cell 0
 have b1:W0.cell? ⟨(w.heap.size+1),1,none⟩=some (.int .i64 p.val):=HQ1.out.cell 1
 have d0:=HQ2.out.cell
 have f0:=HQ2.out.frozen
 have hbz:∀x y z:Value,Below w.heap.size w (((W0.setCell ⟨w.heap.size+2,0,none⟩ x).setCell ⟨w.heap.size+2,1,none⟩ y).setCell ⟨w.heap.size+2,2,none⟩ z):=fun x y z=>((HB0.out.setCell (p:=⟨w.heap.size+2,0,none⟩) (by show w.heap.size<=w.heap.size+2;omega) x).setCell (p:=⟨w.heap.size+2,1,none⟩) (by show w.heap.size<=w.heap.size+2;omega) y).setCell (p:=⟨w.heap.size+2,2,none⟩) (by show w.heap.size<=w.heap.size+2;omega) z
 have HBZ:=KO hbz
 clear hbz
 go_enter func58,ntmps58
 go_upto_region 1 with fail
 rw[HW0.out]
 go_wp2_with fail
 have hR:=KO (HQ2.out.set3 (.int .u64 0) (.bool false) (.int .i64 0))
 have e0:=hR.out.cell
 simp only[LG,Lb,La]at e0
 refine KV (v:= .tuple #[.agg #[.int .u64 0,.bool false,.int .i64 0],.int .i64 6]) (by simp[results,results58,go_sem,(e0 0),(e0 1),(e0 2)]) rfl ?_
 exact⟨rfl,HBZ.out _ _ _⟩
theorem FL (m:Mv) (p:Pr) (is:Bool) (w:World):
  Calls prog 58 #[.agg m.row,.agg #[.int .i64 p.key,.int .i64 p.val],.bool is] w fun r w'=>r= .returned (.tuple #[.agg (J5 m.ver p is).row,.int .i64 (onE is)])/\Below w.heap.size w w':=by
 cases is
 ·exact zR m p w
 ·exact Es m p w
end Go.Proofs.YtpbmbjjfdpkhbaaGreat
