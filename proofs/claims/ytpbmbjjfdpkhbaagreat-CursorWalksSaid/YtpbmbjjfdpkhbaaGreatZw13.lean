/- part of the proof -/
import Derived.Test.YtpbmbjjfdpkhbaaGreatZw12
import Derived.Test.YtpbmbjjfdpkhbaaGreatZw5
import Derived.Test.YtpbmbjjfdpkhbaaGreatZw10
import Derived.Test.YtpbmbjjfdpkhbaaGreatZw4
import Derived.Deep.CutRange
import Derived.Deep.MidRow
import Derived.Test.YtpbmbjjfdpkhbaaGreatZw11
import Derived.ArgAppend
import Derived.Test.YtpbmbjjfdpkhbaaGreatZw6
namespace Go.Proofs.YtpbmbjjfdpkhbaaGreat
open Go Go.RowKit
set_option linter.all false
set_option maxRecDepth 100000
set_option maxHeartbeats 32000000
open Go.Proofs.Tryz
open And renaming intro->KW
open Below renaming refl->KR
open Bool renaming false_ne_true->KP
open Go renaming all_oneCell_toArray->Ld,bodyPost_ret->KV,info_parts->LU,wpOp_step->KT,wp_load_mid->Mw
open Go.Lib renaming hid->KO
open Go.Value renaming int->LB,oneCell'->K5
open List renaming drop_eq_nil_of_le->MG,eq_nil_of_length_eq_zero->LM,flatMap_append->L9,replicate->MU,take_of_length_le->KZ
open Nat renaming le_refl->KS,le_succ->Mm,le_trans->KY,pow_le_pow_right->Lj
open Option.some renaming inj->KQ
theorem ww (l:List Int) (x:Nat) (v:Int):(l.map iv).toArray.setIfInBounds x (.int .i64 v)=((l.set x v).map iv).toArray:=by
 simp[List.map_set,iv]
def Cr (lev:Int) (mx ct:List Int) (w:World) (r:Ending) (w':World):Prop:=∃x2:Ix,r= .returned (.agg x2.row)/\x2.lev=lev/\x2.mx=mx/\x2.ct=ct/\Held (fun k=>k< w.heap.size) (fun W=>IxAt W x2) w'/\Below w.heap.size w w'
theorem Gx {w:World} {B gm gc N:Nat} {mx ct:List Int} (hm:Blk w gm 2 (mx.map iv).toArray) (hc:Blk w gc 3 (ct.map iv).toArray) (h1:B<=gm) (h2:B<=gc) (lev:Int):Held (fun k=>k< B) (fun W=>IxAt W ⟨lev,mx,ct,some ⟨gm,0,none⟩,some ⟨gc,0,none⟩,N,N⟩) w:=
 fun W h=>⟨(hm.mod h (by omega)).sl 0 _ (by intro j u hu;simpa using hu),(hc.mod h (by omega)).sl 0 _ (by intro j u hu;simpa using hu)⟩
theorem bW {P:Prop} (h:P:=by
  iterate 10 apply Exists.intro
  refine⟨rfl,?_,?_,?_,?_,?_,?_,?_,?_,?_,?_,?_,?_,?_,?_,?_,?_,?_,?_,?_,?_⟩
  ·first|exact F0.out|exact fun _=>rfl
  ·first|exact F1.out|exact fun _=>rfl
  ·first|exact F2.out|exact fun _=>rfl
  ·first|exact F3.out|exact fun _=>rfl
  ·first|exact F4.out|exact fun _=>rfl
  ·first|exact F5.out|exact fun _=>rfl
  ·first|exact F6.out|exact fun _=>rfl
  ·first|exact F7.out|exact fun _=>rfl
  ·first|exact F8.out|exact fun _=>rfl
  ·first|exact F9.out|exact fun _=>rfl
  ·exact fun _=>trivial
  ·first|(intro h;have hh:=C1.out (by simpa using h);simp[hh];done)|(intro _;simp[hl0];done)
  ·first|(intro h;have hh:=C4.out (by simpa using h);simp[hh];done)|(intro _;simp[hl3];done)
  ·first|(intro h;have hh:=C5.out (by simpa using h);simp[hh];done)|(intro _;simp[hl2,hl4];done)
  ·first|(intro h;have hh:=C6.out (by simpa using h);simp[hh];done)|(intro _;simp[hl5];done)
  ·first|(intro h;have hh:=C8.out (by simpa using h);simp[hh];done)|(intro _;simp[hl7];done)
  ·first|(intro h;have hh:=C9.out (by simpa using h);simp[hh];done)|(intro _;simp[hl1,hl6];done)
  ·first|(intro h;have hh:=C10.out (by simpa using h);simp[hh];done)|(intro _;simp[hl9,hl8];done)
  ·first|exact S9.out|exact fun _=>rfl|(intro h;refine absurd h ?_;simp;done;done)
  ·first|exact S10.out|exact fun _=>rfl):P:=h
theorem yZ (s:Ss) (w:World) (hs:SsAt w s) (ho:SsOk s) (hm:bF s=true):Calls prog 114 #[.agg s.row] w (Cr (nN s:Nat) (Bq s) (Bw s) w):=by
 have htn:=r9 hm ho
 have hsg:=fG hm
 obtain⟨MX,hMX⟩:∃x,Bq s=x:=⟨_,rfl⟩
 obtain⟨CT,hCT⟩:∃x,Bw s=x:=⟨_,rfl⟩
 rw[hMX,hCT]
 have hMX2:=hMX
 have hCT2:=hCT
 unfold Bq at hMX2
 unfold Bw at hCT2
 obtain⟨N,hN⟩:∃N,2 ^ nN s-1=N:=⟨_,rfl⟩
 rw[hN]at htn
 obtain⟨lv,hlv⟩:∃x,nN s=x:=⟨_,rfl⟩
 rw[hlv]at htn hMX2 hCT2 hN ⊢
 have hN9:1<=N/\N<=127:=by
  have h1:=dP htn.l7
  have h2:2 ^ 1<=2 ^ lv:=Lj (n:=2) (by decide) htn.l1
  omega
 have hcl:s.cs.length<=300:=ho.cl
 obtain⟨L0,hL0⟩:∃x,Nat.log2 s.cs.length=x:=⟨_,rfl⟩
 have hL1:L0+1=lv:=by rw[<-hL0,<-hlv];rfl
 have HLG:=KO (show∀W,Calls prog 133 #[.int .i64 ((s.cs.length:Nat):Int)] W (fun e w'=>e= .returned (.int .i64 (L0:Nat))/\w'=W)from fun W=>by have:=qJ s.cs.length W (by omega);rw[hL0]at this;exact this)
 have HMA:=KO (fun W=>sS lv N W htn.l7 hN)
 have HPL:=KO (fun W=>vJ lv N W htn.l1 htn.l7 hN)
 have htr:=fun n (h1:1<=n) (h2:n<=N) W (hW:SsAt W s)=>by
  have hf:=yo htn.l7 htn.l1 h1 (show n< 2 ^ lv by omega)
  have h:=Bo s lv (2 ^ (lv-1)) ho hm htn.l1 htn.l7 rfl (by rw[htn.hf]) (lv-1-Nat.log2 n) n W hW (by have:=htn.l7;omega) hf.node
  exact h
 have HTR:=KO (show∀n,1<=n->n<=N->∀W,SsAt W s->Calls prog 136 #[.agg s.row,.int .i64 (lv:Nat),.int .i64 (n:Nat)] W (fun r w'=>r= .returned (.agg (ig s lv n).row)/\Below W.heap.size W w')from htr)
 obtain⟨im,him,hm0,hm1,hm2⟩:=LU rF
 obtain⟨ic,hic,hc0,hc1,hc2⟩:=LU sH
 have hk1:=fun W=>aW (P:=prog) 26 2 im (.int .i64 0) underlying26 him hm0 N (by rw[hm2];omega) (by omega) W
 have hk2:=fun W=>aW (P:=prog) 27 3 ic (.int .i64 0) underlying27 hic hc0 N (by rw[hc2];omega) (by omega) W
 rw[hm1]at hk1
 rw[hc1]at hk2
 have hmx:madeCells #[.int .i64 0] (N*1)=(MU N (LB .i64 0)).toArray:=by
  apply Array.ext
  ·simp[madeCells]
  ·intro i h1 h2
   simp[madeCells,Nat.mod_one]
 have HK1:=KO hk1
 have HK2:=KO hk2
 have HMX:=KO hmx
 obtain⟨T,hT⟩:∃T,ig s lv=T:=⟨_,rfl⟩
 rw[hT]at HTR hMX2 hCT2
 have HMXE:=KO (KW hMX2 hCT2)
 have HN:=KO (KW hN9 (KW hN (KW htn hsg)))
 obtain⟨W0,hW0⟩:∃W,(w.alloc (.cells s.row 29)).alloc (.cells #[.int .i64 0,.slice none 0 0,.slice none 0 0] 33)=W:=⟨_,rfl⟩
 have hb0:Below w.heap.size w W0:=by rw[<-hW0];exact((KR _ _).alloc (KS _) _).alloc (by simp) _
 have b0:Blk W0 w.heap.size 29 s.row:=by rw[<-hW0];exact(Blk.new _ _ _).alloc _
 have br:Blk W0 (w.heap.size+1) 33 #[.int .i64 0,.slice none 0 0,.slice none 0 0]:=by
  rw[<-hW0]
  have:=Blk.new (w.alloc (.cells s.row 29)) 33 #[.int .i64 0,.slice none 0 0,.slice none 0 0]
  rwa [World.size_alloc]at this
 have HW0:=KO hW0
 have HB0:=KO hb0
 have HC0:=KO b0
 have HR0:=KO br
 have HSA:=KO (fun W hb=>hs.below (w':=W) hb)
 have hwl:IntKind.i64.wrap ((L0:Int)+1)=(lv:Int):=by rw[IntWalk.i64_in _ (by have:=htn.l7;omega)];omega
 have q4:W0.cell? ⟨w.heap.size,4,none⟩=some (.slice s.cA s.cs.length s.cc):=b0.cell 4
 clear hm0 hm1 hm2 hc0 hc1 hc2 him hic hk1 hk2 hmx hMX2 hCT2 hN9 hN htn hsg hlv hL0 hL1 htr hMX hCT hs ho hm hW0 hb0 b0 br hcl hT
 go_enter func114,ntmps114
 go_upto_region 1 with fail
 rw[HW0.out]
 go_wp2_with fail
 refine(HLG.out _).mono ?_
 rintro e w1 ⟨rfl,hw⟩
 rw[hw]
 clear hw w1
 go_upto_region 2 with fail
 refine aH (by kernel_rfl) (by kernel_rfl) (fun L a W=>∃(X:Nat->Prop) (t13 t14 t15 t16 t17 t18 t19 t20 t4:Value) (g16:Nat) (g19:Nat) (g8:Nat),a=⟨#[(.agg s.row),.pointer (some ⟨w.heap.size,0,none⟩),.pointer (some ⟨w.heap.size+1,0,none⟩),.int .i64 (lv:Nat),t4,undef,undef,undef,.pointer (some ⟨w.heap.size,4,none⟩),.slice s.cA s.cs.length s.cc,.int .i64 ((s.cs.length:Nat):Int),.int .i64 (L0:Nat),.int .i64 (lv:Nat),t13,t14,t15,t16,t17,t18,t19,t20,undef,undef,undef,undef,undef,undef,undef,undef,undef,undef,undef,undef,undef,undef,undef,undef,undef,undef,undef,undef,undef,undef,undef,undef,undef,undef,undef,undef,undef,undef,undef,undef,undef,undef],[]⟩/\Below W0.heap.size W0 W/\(∀k,X k->W0.heap.size<=k/\k< W.heap.size)/\(L 0=true->t13= .int .i64 (lv:Nat))/\(L 1=true->t14= .int .i64 (lv:Nat))/\(L 2=true->t15= .int .i64 (N:Nat))/\(L 3=true->t16= .slice (some ⟨g16,0,none⟩) N N/\Held X (fun W=>(w.heap.size<=g16/\Blk W g16 2 (MU N (LB .i64 0)).toArray)) W)/\(L 4=true->t17= .int .i64 (lv:Nat))/\(L 5=true->t18= .int .i64 (N:Nat))/\(L 6=true->t19= .slice (some ⟨g19,0,none⟩) N N/\Held X (fun W=>(w.heap.size<=g19/\Blk W g19 3 (MU N (LB .i64 0)).toArray)) W)/\(L 7=true->t20= .agg #[.int .i64 (lv:Nat),.slice (some ⟨g16,0,none⟩) N N,.slice (some ⟨g19,0,none⟩) N N])/\(L 8=true->t4= .pointer (some ⟨g8,0,none⟩)/\X g8/\Held (fun k=>X k/\k≠g8) (fun W=>(∃x0 x1 x2:Value,Blk W g8 33 #[x0,x1,x2])) W)/\(L 9=true->Held (fun k=>X k/\k≠g8) (fun W=>Blk W g8 33 #[.int .i64 (lv:Nat),.slice (some ⟨g16,0,none⟩) N N,.slice (some ⟨g19,0,none⟩) N N]) W)/\(L 7=true->L 3=true)/\(L 7=true->L 6=true)/\(L 9=true->L 3=true)/\(L 9=true->L 6=true)/\(L 9=true->L 8=true)) ?h0 ?hstep ?hend
 case h0=>exact⟨(fun _=>False),undef,undef,undef,undef,undef,undef,undef,undef,undef,0,0,0,rfl,(KR _ _).drew,fun k hk=>absurd hk id,fun h=>absurd h KP,fun h=>absurd h KP,fun h=>absurd h KP,fun h=>absurd h KP,fun h=>absurd h KP,fun h=>absurd h KP,fun h=>absurd h KP,fun h=>absurd h KP,fun h=>absurd h KP,fun h=>absurd h KP,fun h=>absurd h KP,fun h=>absurd h KP,fun h=>absurd h KP,fun h=>absurd h KP,fun h=>absurd h KP⟩
 case hend=>
  rintro L a W hall ⟨X,t13,t14,t15,t16,t17,t18,t19,t20,t4,g16,g19,g8,rfl,hb,hX,f0,f1,f2,f3,f4,f5,f6,f7,f8,f9,im7_3,im7_6,im9_3,im9_6,im9_8⟩
  have z0:=f0 (hall 0 (by decide))
  have z1:=f1 (hall 1 (by decide))
  have z2:=f2 (hall 2 (by decide))
  have z3:=f3 (hall 3 (by decide))
  have z4:=f4 (hall 4 (by decide))
  have z5:=f5 (hall 5 (by decide))
  have z6:=f6 (hall 6 (by decide))
  have z7:=f7 (hall 7 (by decide))
  have z8:=f8 (hall 8 (by decide))
  have z9:=f9 (hall 9 (by decide))
  clear hall f0 f1 f2 f3 f4 f5 f6 f7 f8 f9 im7_3 im7_6 im9_3 im9_6 im9_8
  obtain rfl:=z0
  obtain rfl:=z1
  obtain rfl:=z2
  obtain rfl:=z4
  obtain rfl:=z5
  obtain rfl:=z7
  obtain⟨rfl,h3⟩:=z3
  obtain⟨rfl,h6⟩:=z6
  obtain⟨rfl,hx8,h8⟩:=z8
  have b16:=h3.now
  have b19:=h6.now
  have b8:=z9.now
  clear h3 h6 h8 z9
  have hle8:=(hX g8 hx8).1
  clear hX hx8
  obtain⟨l16,b16⟩:=b16
  obtain⟨l19,b19⟩:=b19
  have hmx0:b16=b16:=rfl
  have hm0:(MU N (LB .i64 0)).toArray=((rA lv (fun m=>decide (1<=m/\m<=0)) (fun n=>(T n).max)).map iv).toArray:=by
   rw[nI lv HN.out.2.2.1.l1 _ _ (fun m=>by simp;omega),HN.out.2.1,List.map_replicate];rfl
  have hc0:(MU N (LB .i64 0)).toArray=((rA lv (fun m=>decide (1<=m/\m<=0)) (fun n=>(((T n).many:Nat):Int))).map iv).toArray:=by
   rw[nI lv HN.out.2.2.1.l1 _ _ (fun m=>by simp;omega),HN.out.2.1,List.map_replicate];rfl
  have n1:g16≠g19:=bI b16 b19 (by decide)
  have n2:g16≠g8:=bI b16 b8 (by decide)
  have n3:g19≠g8:=bI b19 b8 (by decide)
  rw[hm0]at b16
  rw[hc0]at b19
  have HBW:=KO (aa HB0.out hb)
  have HC1:=KO (HC0.out.below hb HC0.out.lt)
  have HR1:=KO (HR0.out.below hb HR0.out.lt)
  have hsz:w.heap.size+2<=W0.heap.size:=by have:=HR0.out.lt;omega
  have HNE:=KO (KW n1 (KW n2 (KW n3 (KW l16 (KW l19 (KW hle8 hsz))))))
  have H16:=KO b16
  have H19:=KO b19
  have H8:=KO b8
  have HB1:=KO hb
  clear hmx0 hm0 hc0 n1 n2 n3 hle8 l16 l19 b16 b19 b8 hb hsz
  go_wp2_with fail
  refine(HPL.out _).mono ?_
  rintro e w3 ⟨A,c,rfl,ho,hb3⟩
  have HSL:=KO (aA ho)
  have HAB:=KO (show∀a,A=some a->W.heap.size<=a.block from kU ho)
  have HB3:=KO hb3
  have H16a:=KO (H16.out.below hb3 H16.out.lt)
  have H19a:=KO (H19.out.below hb3 H19.out.lt)
  have H8a:=KO (H8.out.below hb3 H8.out.lt)
  have HC3:=KO (HC1.out.below hb3 HC1.out.lt)
  have HR3:=KO (HR1.out.below hb3 HR1.out.lt)
  have HL:=KO (KW H16.out.lt (KW H19.out.lt H8.out.lt))
  have HBW3:=KO (aa HBW.out hb3)
  clear ho hb3 H16 H19 H8 HC1 HR1
  go_wp2_with fail
  go_loopw [6] (fun e W=>∃k:Nat,k<=N/\e= .int .i64 ((k+1:Nat):Int)/\Hid (Blk W g16 2 ((rA lv (fun m=>decide (1<=m/\m<=k)) (fun n=>(T n).max)).map iv).toArray)/\Hid (Blk W g19 3 ((rA lv (fun m=>decide (1<=m/\m<=k)) (fun n=>(((T n).many:Nat):Int))).map iv).toArray)/\Hid (Mod (fun b=>b=g16∨b=g19) w3 W)) (fun e _=>N+1-(intOf e).toNat)
  case atStart=>exact⟨0,Nat.zero_le _,rfl,H16a.out,H19a.out,Mod.refl _ _⟩
  case round=>
   obtain⟨k,hk,rfl,hbm,hbc,hmd⟩:=hrel
   have hl8:g8< w3.heap.size:=H8a.out.lt
   have h8r:=H8a.out.mod hmd.out (fun hx=>hx.elim (fun q=>HNE.out.2.1 q.symm) (fun q=>HNE.out.2.2.1 q.symm))
   have p1:wr.cell? ⟨g8,1,none⟩=some (.slice (some ⟨g16,0,none⟩) N N):=h8r.cell 1
   have p2:wr.cell? ⟨g8,2,none⟩=some (.slice (some ⟨g19,0,none⟩) N N):=h8r.cell 2
   by_cases hlt:k< N
   ·obtain⟨n,hn⟩:∃n,k+1=n:=⟨_,rfl⟩
    rw[hn]
    have i1:(n:Int)<=(N:Int):=by omega
    have i2:(0:Int)<=(k:Int):=by omega
    have i3:(k:Int)< (N:Int):=by omega
    have hbw:=HBW3.out.trans (hmd.out.below HBW3.out.size (fun b hb=>hb.elim (fun q=>by rw[q];exact HNE.out.2.2.2.1) (fun q=>by rw[q];exact HNE.out.2.2.2.2.1)))
    have hsw:=HSA.out wr hbw
    have c0:Blk wr w.heap.size 29 s.row:=HC3.out.mod hmd.out (fun hx=>hx.elim (bI HC3.out H16a.out (by decide)) (bI HC3.out H19a.out (by decide)))
    have q0:wr.cell? ⟨w.heap.size,0,none⟩=some (.int .i64 s.seg):=c0.cell 0
    have q1:wr.cell? ⟨w.heap.size,1,none⟩=some (.slice s.wA s.ws.length s.wc):=c0.cell 1
    have q2:wr.cell? ⟨w.heap.size,2,none⟩=some (.slice s.kA s.ks.length s.kc):=c0.cell 2
    have q3:wr.cell? ⟨w.heap.size,3,none⟩=some (.slice s.vA s.vs.length s.vc):=c0.cell 3
    have q4':wr.cell? ⟨w.heap.size,4,none⟩=some (.slice s.cA s.cs.length s.cc):=c0.cell 4
    have q5:wr.cell? ⟨w.heap.size,5,none⟩=some (.int .u64 s.laid):=c0.cell 5
    have HSW:=KO hsw
    have HBR:=KO hbw
    have H8R:=KO h8r
    obtain⟨M,hM⟩:∃M,(T n).max=M:=⟨_,rfl⟩
    obtain⟨Q,hQ⟩:∃Q,(T n).many=Q:=⟨_,rfl⟩
    have ht0:=HTR.out n (by omega) (by omega) wr hsw
    have HT0:=KO (show Calls prog 136 #[.agg s.row,.int .i64 (lv:Nat),.int .i64 (n:Nat)] wr (fun r w'=>r= .returned (.agg #[.int .i64 M,.int .i64 (Q:Nat)])/\Below wr.heap.size wr w')by rw[<-hM,<-hQ];exact ht0)
    have HMQ:=KO (KW hM hQ)
    clear hsw hbw c0 h8r hlt ht0 hM hQ
    go_wp2_with fail
    refine HT0.out.mono ?_
    rintro e w4 ⟨rfl,hb4⟩
    have HB4:=KO hb4
    clear hb4 q0 q1 q2 q3 q4' q5 p1 p2
    go_upto_region 8 with fail
    obtain⟨W7,hW7⟩:∃W7,w4.alloc (.cells #[.int .i64 M,.int .i64 (Q:Nat)] 193)=W7:=⟨_,rfl⟩
    have hb7:Below wr.heap.size wr W7:=by rw[<-hW7];exact HB4.out.alloc HB4.out.size _
    have b7:Blk W7 w4.heap.size 193 #[.int .i64 M,.int .i64 (Q:Nat)]:=by rw[<-hW7];exact Blk.new _ _ _
    rw[hW7]
    clear hW7
    have hlw:w4.heap.size≥wr.heap.size:=HB4.out.size
    obtain⟨g7,hg7⟩:∃g7,w4.heap.size=g7:=⟨_,rfl⟩
    rw[hg7]at b7 hlw ⊢
    have hcm:=hbm.out.below hb7 hbm.out.lt
    have hcc:=hbc.out.below hb7 hbc.out.lt
    have hc8:=H8R.out.below hb7 H8R.out.lt
    have hpl:(gV lv).length=N:=by rw[<-HN.out.2.1];exact jW _ _ _
    have hkl:k< ((gV lv).map nv).length:=by rw[List.length_map,hpl];omega
    have hkl2:k< (gV lv).length:=by rw[hpl];omega
    obtain⟨b5,o5,e5,hbl5,d5⟩:=HSL.out.one k hkl2
    subst e5
    have hb5:=HAB.out _ rfl
    have hp8:=Bn HN.out.2.2.1.l7 HN.out.2.2.1.l1 (show k< 2 ^ lv-1 by rw[HN.out.2.1];omega)
    rw[HN.out.2.1]at hp8
    have hpk:(gV lv).getD k 0=(gV lv)[k]'hkl2:=by rw[List.getD_eq_getElem?_getD,List.getElem?_eq_getElem hkl2];rfl
    rw[hpk]at hp8
    obtain⟨p,hp⟩:∃p,(gV lv)[k]'hkl2=p:=⟨_,rfl⟩
    rw[hp]at d5 hp8 hpk
    have hpN:=hp8.2
    have n5a:b5≠g16:=by have:=HL.out.1;simp at hb5;omega
    have n5b:b5≠g19:=by have:=HL.out.2.1;simp at hb5;omega
    have hsz5:=hmd.out.size
    have d6:wr.cell? ⟨b5,o5+k,none⟩=some (.int .i64 (p:Nat)):=(hmd.out.cell (p:=⟨b5,o5+k,none⟩) hbl5 (fun hx=>hx.elim n5a n5b)).trans d5
    have d7:W7.cell? ⟨b5,o5+k,none⟩=some (.int .i64 (p:Nat)):=(hb7.cell (p:=⟨b5,o5+k,none⟩) (Nat.lt_of_lt_of_le hbl5 hsz5)).trans d6
    obtain⟨vx,hcx⟩:∃v,W7.cell? ⟨g16,p,none⟩=some v:=⟨_,(hcm.cell p).trans (Array.getElem?_eq_getElem (by simp[ko _ _ _ HN.out.2.2.1.l1,HN.out.2.1];exact hpN))⟩
    have hfx:W7.frozen? ⟨g16,p,none⟩=false:=hcm.frozen p
    have j1:(0:Int)<=(p:Int):=by omega
    have j2:(p:Int)< (N:Int):=by omega
    have r1:W7.cell? ⟨g8,1,none⟩=some (.slice (some ⟨g16,0,none⟩) N N):=hc8.cell 1
    have r7:W7.cell? ⟨g7,0,none⟩=some (.int .i64 M):=b7.cell 0
    have hw1:IntKind.i64.wrap ((n:Int)-1)=(k:Int):=by rw[IntWalk.i64_in _ (by have:=HN.out.1;omega)];omega
    have HCM:=KO hcm
    have HCC:=KO hcc
    have HC8:=KO hc8
    have HB7:=KO hb7
    have HK7:=KO b7
    have HPK:=KO (KW hpk hpN)
    have HLW:=KO hlw
    have HD7:=KO (KW hbl5 (KW d7 (KW n5a n5b)))
    have HHN:=KO hn
    have HG7:=KO (KW (bI hcm b7 (by decide)) (bI hcc b7 (by decide)))
    clear hcm hcc hc8 hb7 b7 hpk hpN hlw hbl5 n5a n5b hpl hkl hkl2 d5 d6 hp hp8 hsz5 hb5 hn hg7
    refine aH (by kernel_rfl) (by kernel_rfl) (fun L a W=>∃(t34 t35 t36 t37 t38 t39 t40 t41 t42 t43:Value),a=⟨#[Value.agg s.row,.pointer (some ⟨w.heap.size,0,none⟩),.pointer (some ⟨w.heap.size+1,0,none⟩),.int .i64 ((lv:Nat):Int),.pointer (some ⟨g8,0,none⟩),.slice (some ⟨b5,o5,none⟩) N c,.int .i64 ((n:Nat):Int),.pointer (some ⟨g7,0,none⟩),.pointer (some ⟨w.heap.size,4,none⟩),.slice s.cA s.cs.length s.cc,.int .i64 ((s.cs.length:Nat):Int),.int .i64 ((L0:Nat):Int),.int .i64 ((lv:Nat):Int),.int .i64 ((lv:Nat):Int),.int .i64 ((lv:Nat):Int),.int .i64 ((N:Nat):Int),.slice (some ⟨g16,0,none⟩) N N,.int .i64 ((lv:Nat):Int),.int .i64 ((N:Nat):Int),.slice (some ⟨g19,0,none⟩) N N,Value.agg #[.int .i64 ((lv:Nat):Int),.slice (some ⟨g16,0,none⟩) N N,.slice (some ⟨g19,0,none⟩) N N],.int .i64 ((lv:Nat):Int),.slice (some ⟨b5,o5,none⟩) N c,.int .i64 ((n:Nat):Int),.pointer (some ⟨g8,1,none⟩),.slice (some ⟨g16,0,none⟩) N N,.int .i64 ((N:Nat):Int),.bool true,u28,u29,Value.agg s.row,.int .i64 ((lv:Nat):Int),.int .i64 ((n:Nat):Int),Value.agg #[.int .i64 M,.int .i64 ((Q:Nat):Int)],t34,t35,t36,t37,t38,t39,t40,t41,t42,t43,u44,u45,u46,u47,u48,u49,u50,u51,u52,u53,undef],[]⟩/\(L 0=true->t34= .pointer (some ⟨g8,1,none⟩))/\(L 1=true->t35= .slice (some ⟨g16,0,none⟩) N N)/\(L 2=true->t36= .slice (some ⟨b5,o5,none⟩) N c)/\(L 3=true->t37= .int .i64 (n:Nat))/\(L 4=true->t38= .int .i64 (k:Nat))/\(L 5=true->t39= .pointer (some ⟨b5,o5+k,none⟩))/\(L 6=true->t40= .int .i64 (p:Nat))/\(L 7=true->t41= .pointer (some ⟨g7,0,none⟩))/\(L 8=true->t42= .int .i64 M)/\(L 9=true->t43= .pointer (some ⟨g16,p,none⟩))/\(L 10=true->True)/\(L 1=true->L 0=true)/\(L 4=true->L 3=true)/\(L 5=true->L 2=true/\L 4=true)/\(L 6=true->L 5=true)/\(L 8=true->L 7=true)/\(L 9=true->L 1=true/\L 6=true)/\(L 10=true->L 9=true/\L 8=true)/\(L 10=false->W=W7.drew)/\(L 10=true->W=W7.drew.setCell ⟨g16,p,none⟩ (.int .i64 M))) ?h08 ?hstep8 ?hend8
    case h08=>exact⟨u34,u35,u36,u37,u38,u39,u40,u41,u42,u43,rfl,fun h=>absurd h KP,fun h=>absurd h KP,fun h=>absurd h KP,fun h=>absurd h KP,fun h=>absurd h KP,fun h=>absurd h KP,fun h=>absurd h KP,fun h=>absurd h KP,fun h=>absurd h KP,fun h=>absurd h KP,fun h=>absurd h KP,fun h=>absurd h KP,fun h=>absurd h KP,fun h=>absurd h KP,fun h=>absurd h KP,fun h=>absurd h KP,fun h=>absurd h KP,fun h=>absurd h KP,fun _=>rfl,fun h=>absurd h KP⟩
    case hend8=>
     rintro L a W hall ⟨t34,t35,t36,t37,t38,t39,t40,t41,t42,t43,rfl,f0,f1,f2,f3,f4,f5,f6,f7,f8,f9,f10,c1,c4,c5,c6,c8,c9,c10,s9,s10⟩
     obtain rfl:=f0 (hall 0 (by decide))
     obtain rfl:=f1 (hall 1 (by decide))
     obtain rfl:=f2 (hall 2 (by decide))
     obtain rfl:=f3 (hall 3 (by decide))
     obtain rfl:=f4 (hall 4 (by decide))
     obtain rfl:=f5 (hall 5 (by decide))
     obtain rfl:=f6 (hall 6 (by decide))
     obtain rfl:=f7 (hall 7 (by decide))
     obtain rfl:=f8 (hall 8 (by decide))
     obtain rfl:=f9 (hall 9 (by decide))
     have hst:=s10 (hall 10 (by decide))
     clear hall f0 f1 f2 f3 f4 f5 f6 f7 f8 f9 f10 c1 c4 c5 c6 c8 c9 c10 s9 s10
     have hb8:=hst
     clear hst
     have HM8:=KO (show Blk W g16 2 ((rA lv (fun m=>decide (1<=m/\m<=k+1)) (fun n=>(T n).max)).map iv).toArray by
      have hq:=qC HN.out.2.2.1.l7 HN.out.2.2.1.l1 (k:=k) (by rw[HN.out.2.1];have:=i3;omega) (fun m=>decide (1<=m/\m<=k)) (fun m=>decide (1<=m/\m<=k+1)) (fun n=>(T n).max) (by simp) (fun m hm=>decide_eq_decide.2 (by omega))
      rw[<-hq,HHN.out,HMQ.out.1,HPK.out.1,<-ww,hb8]
      exact(Blk.drewN HCM.out 1).set_ p _)
     have HC8b:=KO (show Blk W g19 3 ((rA lv (fun m=>decide (1<=m/\m<=k)) (fun n=>(((T n).many:Nat):Int))).map iv).toArray by
      rw[hb8]
      exact(Blk.drewN HCC.out 1).far (p:=⟨g16,p,none⟩) (fun q=>HNE.out.1 q.symm) _)
     have hk7:Blk W g7 193 #[.int .i64 M,.int .i64 (Q:Nat)]:=by
      rw[hb8]
      exact(Blk.drewN HK7.out 1).far (p:=⟨g16,p,none⟩) (fun q=>HG7.out.1 q.symm) _
     have hk8:Blk W g8 33 #[.int .i64 (lv:Nat),.slice (some ⟨g16,0,none⟩) N N,.slice (some ⟨g19,0,none⟩) N N]:=by
      rw[hb8]
      exact(Blk.drewN HC8.out 1).far (p:=⟨g16,p,none⟩) (fun q=>HNE.out.2.1 q.symm) _
     have HMD8:=KO (show Mod (fun b=>b=g16∨b=g19) w3 W by rw[hb8];exact(hmd.out.ext HB7.out).drew.setCell (p:=⟨g16,p,none⟩) (.inl rfl) _)
     have d8:W.cell? ⟨b5,o5+k,none⟩=some (.int .i64 (p:Nat)):=by
      rw[hb8]
      exact(World.cell?_setCell_far _ _ _ _ (fun q=>HD7.out.2.2.1 q.symm)).trans HD7.out.2.1
     clear hb8 r1 r7 d7 hcx hfx
     obtain⟨vy,hcy⟩:∃v,W.cell? ⟨g19,p,none⟩=some v:=⟨_,(HC8b.out.cell p).trans (Array.getElem?_eq_getElem (by simp[ko _ _ _ HN.out.2.2.1.l1,HN.out.2.1];exact HPK.out.2))⟩
     have hfy:W.frozen? ⟨g19,p,none⟩=false:=HC8b.out.frozen p
     have r2:W.cell? ⟨g8,2,none⟩=some (.slice (some ⟨g19,0,none⟩) N N):=hk8.cell 2
     have r8:W.cell? ⟨g7,1,none⟩=some (.int .i64 (Q:Nat)):=hk7.cell 1
     clear hk7 hk8
     obtain⟨W8,hW8⟩:∃W8,W=W8:=⟨_,rfl⟩
     rw[hW8]at HM8 HC8b HMD8 d8 hcy hfy r2 r8 ⊢
     clear hW8
     go_upto_region 9 with fail
     refine aH (by kernel_rfl) (by kernel_rfl) (fun L a W=>∃(t44 t45 t46 t47 t48 t49 t50 t51 t52 t53:Value),a=⟨#[Value.agg s.row,.pointer (some ⟨w.heap.size,0,none⟩),.pointer (some ⟨w.heap.size+1,0,none⟩),.int .i64 ((lv:Nat):Int),.pointer (some ⟨g8,0,none⟩),.slice (some ⟨b5,o5,none⟩) N c,.int .i64 ((n:Nat):Int),.pointer (some ⟨g7,0,none⟩),.pointer (some ⟨w.heap.size,4,none⟩),.slice s.cA s.cs.length s.cc,.int .i64 ((s.cs.length:Nat):Int),.int .i64 ((L0:Nat):Int),.int .i64 ((lv:Nat):Int),.int .i64 ((lv:Nat):Int),.int .i64 ((lv:Nat):Int),.int .i64 ((N:Nat):Int),.slice (some ⟨g16,0,none⟩) N N,.int .i64 ((lv:Nat):Int),.int .i64 ((N:Nat):Int),.slice (some ⟨g19,0,none⟩) N N,Value.agg #[.int .i64 ((lv:Nat):Int),.slice (some ⟨g16,0,none⟩) N N,.slice (some ⟨g19,0,none⟩) N N],.int .i64 ((lv:Nat):Int),.slice (some ⟨b5,o5,none⟩) N c,.int .i64 ((n:Nat):Int),.pointer (some ⟨g8,1,none⟩),.slice (some ⟨g16,0,none⟩) N N,.int .i64 ((N:Nat):Int),.bool true,u28,u29,Value.agg s.row,.int .i64 ((lv:Nat):Int),.int .i64 ((n:Nat):Int),Value.agg #[.int .i64 M,.int .i64 ((Q:Nat):Int)],.pointer (some ⟨g8,1,none⟩),.slice (some ⟨g16,0,none⟩) N N,.slice (some ⟨b5,o5,none⟩) N c,.int .i64 (n:Nat),.int .i64 (k:Nat),.pointer (some ⟨b5,o5+k,none⟩),.int .i64 (p:Nat),.pointer (some ⟨g7,0,none⟩),.int .i64 M,.pointer (some ⟨g16,p,none⟩),t44,t45,t46,t47,t48,t49,t50,t51,t52,t53,undef],[]⟩/\(L 0=true->t44= .pointer (some ⟨g8,2,none⟩))/\(L 1=true->t45= .slice (some ⟨g19,0,none⟩) N N)/\(L 2=true->t46= .slice (some ⟨b5,o5,none⟩) N c)/\(L 3=true->t47= .int .i64 (n:Nat))/\(L 4=true->t48= .int .i64 (k:Nat))/\(L 5=true->t49= .pointer (some ⟨b5,o5+k,none⟩))/\(L 6=true->t50= .int .i64 (p:Nat))/\(L 7=true->t51= .pointer (some ⟨g7,1,none⟩))/\(L 8=true->t52= .int .i64 (Q:Nat))/\(L 9=true->t53= .pointer (some ⟨g19,p,none⟩))/\(L 10=true->True)/\(L 1=true->L 0=true)/\(L 4=true->L 3=true)/\(L 5=true->L 2=true/\L 4=true)/\(L 6=true->L 5=true)/\(L 8=true->L 7=true)/\(L 9=true->L 1=true/\L 6=true)/\(L 10=true->L 9=true/\L 8=true)/\(L 10=false->W=W8.drew)/\(L 10=true->W=W8.drew.setCell ⟨g19,p,none⟩ (.int .i64 (Q:Nat)))) ?h09 ?hstep9 ?hend9
     case h09=>exact⟨u44,u45,u46,u47,u48,u49,u50,u51,u52,u53,rfl,fun h=>absurd h KP,fun h=>absurd h KP,fun h=>absurd h KP,fun h=>absurd h KP,fun h=>absurd h KP,fun h=>absurd h KP,fun h=>absurd h KP,fun h=>absurd h KP,fun h=>absurd h KP,fun h=>absurd h KP,fun h=>absurd h KP,fun h=>absurd h KP,fun h=>absurd h KP,fun h=>absurd h KP,fun h=>absurd h KP,fun h=>absurd h KP,fun h=>absurd h KP,fun h=>absurd h KP,fun _=>rfl,fun h=>absurd h KP⟩
     case hend9=>
      rintro L a W hall ⟨t44,t45,t46,t47,t48,t49,t50,t51,t52,t53,rfl,f0,f1,f2,f3,f4,f5,f6,f7,f8,f9,f10,c1,c4,c5,c6,c8,c9,c10,s9,s10⟩
      obtain rfl:=f0 (hall 0 (by decide))
      obtain rfl:=f1 (hall 1 (by decide))
      obtain rfl:=f2 (hall 2 (by decide))
      obtain rfl:=f3 (hall 3 (by decide))
      obtain rfl:=f4 (hall 4 (by decide))
      obtain rfl:=f5 (hall 5 (by decide))
      obtain rfl:=f6 (hall 6 (by decide))
      obtain rfl:=f7 (hall 7 (by decide))
      obtain rfl:=f8 (hall 8 (by decide))
      obtain rfl:=f9 (hall 9 (by decide))
      have hst:=s10 (hall 10 (by decide))
      clear hall f0 f1 f2 f3 f4 f5 f6 f7 f8 f9 f10 c1 c4 c5 c6 c8 c9 c10 s9 s10
      have hb9:=hst
      clear hst
      have HM9:=KO (show Blk W g16 2 ((rA lv (fun m=>decide (1<=m/\m<=k+1)) (fun n=>(T n).max)).map iv).toArray by
       rw[hb9]
       refine Blk.far ?_ (p:=⟨g19,p,none⟩) HNE.out.1 _
       exact Blk.drewN HM8.out 1)
      have HC9:=KO (show Blk W g19 3 ((rA lv (fun m=>decide (1<=m/\m<=k+1)) (fun n=>(((T n).many:Nat):Int))).map iv).toArray by
       have hq:=qC HN.out.2.2.1.l7 HN.out.2.2.1.l1 (k:=k) (by rw[HN.out.2.1];have:=i3;omega) (fun m=>decide (1<=m/\m<=k)) (fun m=>decide (1<=m/\m<=k+1)) (fun n=>(((T n).many:Nat):Int)) (by simp) (fun m hm=>decide_eq_decide.2 (by omega))
       rw[<-hq,HHN.out,HMQ.out.2,HPK.out.1,<-ww,hb9]
       exact(Blk.drewN HC8b.out 1).set_ p _)
      have HMD9:=KO (show Mod (fun b=>b=g16∨b=g19) w3 W by rw[hb9];exact HMD8.out.drew.setCell (p:=⟨g19,p,none⟩) (.inr rfl) _)
      clear hb9
      have hw9:IntKind.i64.wrap ((n:Int)+1)=((n+1:Nat):Int):=by rw[IntWalk.i64_in _ (by have:=HN.out.1;omega)];omega
      go_wp2_with fail
      go_roundw
      case rel=>exact⟨k+1,by have:=i3;omega,by rw[HHN.out];first|rfl|rw[hw9],HM9.out,HC9.out,HMD9.out⟩
      case measure=>have:=i1;simp[intOf,hw9];omega
     case hstep9=>
      rintro L a W i o ho hLi hdep ⟨t44,t45,t46,t47,t48,t49,t50,t51,t52,t53,rfl,f0,f1,f2,f3,f4,f5,f6,f7,f8,f9,f10,c1,c4,c5,c6,c8,c9,c10,s9,s10⟩
      have F0:=KO f0
      have F1:=KO f1
      have F2:=KO f2
      have F3:=KO f3
      have F4:=KO f4
      have F5:=KO f5
      have F6:=KO f6
      have F7:=KO f7
      have F8:=KO f8
      have F9:=KO f9
      have F10:=KO f10
      have C1:=KO c1
      have C4:=KO c4
      have C5:=KO c5
      have C6:=KO c6
      have C8:=KO c8
      have C9:=KO c9
      have C10:=KO c10
      have S9:=KO s9
      have S10:=KO s10
      clear f0 f1 f2 f3 f4 f5 f6 f7 f8 f9 f10 c1 c4 c5 c6 c8 c9 c10 s9 s10
      have HLi:=KO hLi
      clear hLi
      match i,ho with
      |0,ho=>
       obtain rfl:=KQ ho
       clear hdep
       refine KT rfl (fun K1 hK1=>?_)
       have hK:=KO hK1
       clear hK1
       go_wp2_with fail
       refine hK.out _ _ ?_;exact bW
      |1,ho=>
       obtain rfl:=KQ ho
       have hl0:=hdep ⟨0,.data⟩ (by simp) rfl
       obtain rfl:=F0.out hl0
       clear hdep
       have hm0:L 10=false:=by
        cases h:L 10 with
        |false=>rfl
        |true=>exact absurd ((C9.out (C10.out h).1).1) (by rw[HLi.out];exact KP)
       have hW:=S9.out hm0
       subst hW
       refine KT rfl (fun K1 hK1=>?_)
       have hK:=KO hK1
       clear hK1
       go_wp2_with fail
       refine hK.out _ _ ?_;exact bW
      |2,ho=>
       obtain rfl:=KQ ho
       clear hdep
       refine KT rfl (fun K1 hK1=>?_)
       have hK:=KO hK1
       clear hK1
       go_wp2_with fail
       refine hK.out _ _ ?_;exact bW
      |3,ho=>
       obtain rfl:=KQ ho
       clear hdep
       refine KT rfl (fun K1 hK1=>?_)
       have hK:=KO hK1
       clear hK1
       go_wp2_with fail
       refine hK.out _ _ ?_;exact bW
      |4,ho=>
       obtain rfl:=KQ ho
       have hl3:=hdep ⟨3,.data⟩ (by simp) rfl
       obtain rfl:=F3.out hl3
       clear hdep
       refine KT rfl (fun K1 hK1=>?_)
       have hK:=KO hK1
       clear hK1
       go_wp2_with fail
       refine hK.out _ _ ?_;exact bW
      |5,ho=>
       obtain rfl:=KQ ho
       have hl2:=hdep ⟨2,.data⟩ (by simp) rfl
       obtain rfl:=F2.out hl2
       have hl4:=hdep ⟨4,.data⟩ (by simp) rfl
       obtain rfl:=F4.out hl4
       clear hdep
       refine KT rfl (fun K1 hK1=>?_)
       have hK:=KO hK1
       clear hK1
       go_wp2_with fail
       refine hK.out _ _ ?_;exact bW
      |6,ho=>
       obtain rfl:=KQ ho
       have hl5:=hdep ⟨5,.data⟩ (by simp) rfl
       obtain rfl:=F5.out hl5
       clear hdep
       have hm0:L 10=false:=by
        cases h:L 10 with
        |false=>rfl
        |true=>exact absurd ((C9.out (C10.out h).1).2) (by rw[HLi.out];exact KP)
       have hW:=S9.out hm0
       subst hW
       refine KT rfl (fun K1 hK1=>?_)
       have hK:=KO hK1
       clear hK1
       go_wp2_with fail
       refine hK.out _ _ ?_;exact bW
      |7,ho=>
       obtain rfl:=KQ ho
       clear hdep
       refine KT rfl (fun K1 hK1=>?_)
       have hK:=KO hK1
       clear hK1
       go_wp2_with fail
       refine hK.out _ _ ?_;exact bW
      |8,ho=>
       obtain rfl:=KQ ho
       have hl7:=hdep ⟨7,.data⟩ (by simp) rfl
       obtain rfl:=F7.out hl7
       clear hdep
       have hm0:L 10=false:=by
        cases h:L 10 with
        |false=>rfl
        |true=>exact absurd ((C10.out h).2) (by rw[HLi.out];exact KP)
       have hW:=S9.out hm0
       subst hW
       refine KT rfl (fun K1 hK1=>?_)
       have hK:=KO hK1
       clear hK1
       go_wp2_with fail
       refine hK.out _ _ ?_;exact bW
      |9,ho=>
       obtain rfl:=KQ ho
       have hl1:=hdep ⟨1,.data⟩ (by simp) rfl
       obtain rfl:=F1.out hl1
       have hl6:=hdep ⟨6,.data⟩ (by simp) rfl
       obtain rfl:=F6.out hl6
       clear hdep
       refine KT rfl (fun K1 hK1=>?_)
       have hK:=KO hK1
       clear hK1
       go_wp2_with fail
       refine hK.out _ _ ?_;exact bW
      |10,ho=>
       obtain rfl:=KQ ho
       have hl9:=hdep ⟨9,.data⟩ (by simp) rfl
       obtain rfl:=F9.out hl9
       have hl8:=hdep ⟨8,.data⟩ (by simp) rfl
       obtain rfl:=F8.out hl8
       clear hdep
       have hst:=S9.out HLi.out
       refine KT rfl (fun K1 hK1=>?_)
       have hK:=KO hK1
       clear hK1
       subst hst
       go_wp2_with fail
       refine hK.out _ _ ?_;exact bW
    case hstep8=>
     rintro L a W i o ho hLi hdep ⟨t34,t35,t36,t37,t38,t39,t40,t41,t42,t43,rfl,f0,f1,f2,f3,f4,f5,f6,f7,f8,f9,f10,c1,c4,c5,c6,c8,c9,c10,s9,s10⟩
     have F0:=KO f0
     have F1:=KO f1
     have F2:=KO f2
     have F3:=KO f3
     have F4:=KO f4
     have F5:=KO f5
     have F6:=KO f6
     have F7:=KO f7
     have F8:=KO f8
     have F9:=KO f9
     have F10:=KO f10
     have C1:=KO c1
     have C4:=KO c4
     have C5:=KO c5
     have C6:=KO c6
     have C8:=KO c8
     have C9:=KO c9
     have C10:=KO c10
     have S9:=KO s9
     have S10:=KO s10
     clear f0 f1 f2 f3 f4 f5 f6 f7 f8 f9 f10 c1 c4 c5 c6 c8 c9 c10 s9 s10
     have HLi:=KO hLi
     clear hLi
     match i,ho with
     |0,ho=>
      obtain rfl:=KQ ho
      clear hdep
      refine KT rfl (fun K1 hK1=>?_)
      have hK:=KO hK1
      clear hK1
      go_wp2_with fail
      refine hK.out _ _ ?_;exact bW
     |1,ho=>
      obtain rfl:=KQ ho
      have hl0:=hdep ⟨0,.data⟩ (by simp) rfl
      obtain rfl:=F0.out hl0
      clear hdep
      have hm0:L 10=false:=by
       cases h:L 10 with
       |false=>rfl
       |true=>exact absurd ((C9.out (C10.out h).1).1) (by rw[HLi.out];exact KP)
      have hW:=S9.out hm0
      subst hW
      refine KT rfl (fun K1 hK1=>?_)
      have hK:=KO hK1
      clear hK1
      go_wp2_with fail
      refine hK.out _ _ ?_;exact bW
     |2,ho=>
      obtain rfl:=KQ ho
      clear hdep
      refine KT rfl (fun K1 hK1=>?_)
      have hK:=KO hK1
      clear hK1
      go_wp2_with fail
      refine hK.out _ _ ?_;exact bW
     |3,ho=>
      obtain rfl:=KQ ho
      clear hdep
      refine KT rfl (fun K1 hK1=>?_)
      have hK:=KO hK1
      clear hK1
      go_wp2_with fail
      refine hK.out _ _ ?_;exact bW
     |4,ho=>
      obtain rfl:=KQ ho
      have hl3:=hdep ⟨3,.data⟩ (by simp) rfl
      obtain rfl:=F3.out hl3
      clear hdep
      refine KT rfl (fun K1 hK1=>?_)
      have hK:=KO hK1
      clear hK1
      go_wp2_with fail
      refine hK.out _ _ ?_;exact bW
     |5,ho=>
      obtain rfl:=KQ ho
      have hl2:=hdep ⟨2,.data⟩ (by simp) rfl
      obtain rfl:=F2.out hl2
      have hl4:=hdep ⟨4,.data⟩ (by simp) rfl
      obtain rfl:=F4.out hl4
      clear hdep
      refine KT rfl (fun K1 hK1=>?_)
      have hK:=KO hK1
      clear hK1
      go_wp2_with fail
      refine hK.out _ _ ?_;exact bW
     |6,ho=>
      obtain rfl:=KQ ho
      have hl5:=hdep ⟨5,.data⟩ (by simp) rfl
      obtain rfl:=F5.out hl5
      clear hdep
      have hm0:L 10=false:=by
       cases h:L 10 with
       |false=>rfl
       |true=>exact absurd ((C9.out (C10.out h).1).2) (by rw[HLi.out];exact KP)
      have hW:=S9.out hm0
      subst hW
      refine KT rfl (fun K1 hK1=>?_)
      have hK:=KO hK1
      clear hK1
      go_wp2_with fail
      refine hK.out _ _ ?_;exact bW
     |7,ho=>
      obtain rfl:=KQ ho
      clear hdep
      refine KT rfl (fun K1 hK1=>?_)
      have hK:=KO hK1
      clear hK1
      go_wp2_with fail
      refine hK.out _ _ ?_;exact bW
     |8,ho=>
      obtain rfl:=KQ ho
      have hl7:=hdep ⟨7,.data⟩ (by simp) rfl
      obtain rfl:=F7.out hl7
      clear hdep
      have hm0:L 10=false:=by
       cases h:L 10 with
       |false=>rfl
       |true=>exact absurd ((C10.out h).2) (by rw[HLi.out];exact KP)
      have hW:=S9.out hm0
      subst hW
      refine KT rfl (fun K1 hK1=>?_)
      have hK:=KO hK1
      clear hK1
      go_wp2_with fail
      refine hK.out _ _ ?_;exact bW
     |9,ho=>
      obtain rfl:=KQ ho
      have hl1:=hdep ⟨1,.data⟩ (by simp) rfl
      obtain rfl:=F1.out hl1
      have hl6:=hdep ⟨6,.data⟩ (by simp) rfl
      obtain rfl:=F6.out hl6
      clear hdep
      refine KT rfl (fun K1 hK1=>?_)
      have hK:=KO hK1
      clear hK1
      go_wp2_with fail
      refine hK.out _ _ ?_;exact bW
     |10,ho=>
      obtain rfl:=KQ ho
      have hl9:=hdep ⟨9,.data⟩ (by simp) rfl
      obtain rfl:=F9.out hl9
      have hl8:=hdep ⟨8,.data⟩ (by simp) rfl
      obtain rfl:=F8.out hl8
      clear hdep
      have hst:=S9.out HLi.out
      refine KT rfl (fun K1 hK1=>?_)
      have hK:=KO hK1
      clear hK1
      subst hst
      go_wp2_with fail
      refine hK.out _ _ ?_;exact bW
   ·obtain rfl:k=N:=by omega
    have i1:¬((k+1:Nat):Int)<=(k:Int):=by omega
    have hm9:=qK HN.out.2.2.1.l7 HN.out.2.2.1.l1 (fun m=>decide (1<=m/\m<=k)) (fun n=>(T n).max) (fun m h1 h2=>by rw[HN.out.2.1]at h2;simp;omega)
    have hc9:=qK HN.out.2.2.1.l7 HN.out.2.2.1.l1 (fun m=>decide (1<=m/\m<=k)) (fun n=>(((T n).many:Nat):Int)) (fun m h1 h2=>by rw[HN.out.2.1]at h2;simp;omega)
    rw[HMXE.out.1]at hm9
    rw[HMXE.out.2]at hc9
    rw[hm9]at hbm
    rw[hc9]at hbc
    have hl1:MX.length=k:=by rw[<-hm9,ko _ _ _ HN.out.2.2.1.l1,HN.out.2.1]
    have hl2:CT.length=k:=by rw[<-hc9,ko _ _ _ HN.out.2.2.1.l1,HN.out.2.1]
    have HLL:=KO (KW hl1 hl2)
    have hrr:Blk wr (w.heap.size+1) 33 #[.int .i64 0,.slice none 0 0,.slice none 0 0]:=HR3.out.mod hmd.out (fun hx=>hx.elim (bI HR3.out H16a.out (by decide)) (bI HR3.out H19a.out (by decide)))
    have HBX:=KO (HBW3.out.trans (hmd.out.below HBW3.out.size (fun b hb=>hb.elim (fun q=>by rw[q];exact HNE.out.2.2.2.1) (fun q=>by rw[q];exact HNE.out.2.2.2.2.1))))
    have p0:wr.cell? ⟨g8,0,none⟩=some (.int .i64 (lv:Nat)):=h8r.cell 0
    have y0:wr.cell? ⟨w.heap.size+1,0,none⟩=some (.int .i64 0):=hrr.cell 0
    have y1:wr.cell? ⟨w.heap.size+1,1,none⟩=some (.slice none 0 0):=hrr.cell 1
    have y2:wr.cell? ⟨w.heap.size+1,2,none⟩=some (.slice none 0 0):=hrr.cell 2
    have z0:wr.frozen? ⟨w.heap.size+1,0,none⟩=false:=hrr.frozen 0
    have z1:wr.frozen? ⟨w.heap.size+1,1,none⟩=false:=hrr.frozen 1
    have z2:wr.frozen? ⟨w.heap.size+1,2,none⟩=false:=hrr.frozen 2
    have HRR:=KO hrr
    have HHB:=KO hbm.out
    have HHC:=KO hbc.out
    clear hlt hk hm9 hc9 hl1 hl2 hrr h8r hbm hbc
    go_wp2_with fail
    have hR:=((HRR.out.set_ 0 (.int .i64 (lv:Nat))).set_ 1 (.slice (some ⟨g16,0,none⟩) k k)).set_ 2 (.slice (some ⟨g19,0,none⟩) k k)
    have hMd:Mod (fun b=>b=w.heap.size+1) wr (((wr.setCell ⟨w.heap.size+1,0,none⟩ (.int .i64 (lv:Nat))).setCell ⟨w.heap.size+1,1,none⟩ (.slice (some ⟨g16,0,none⟩) k k)).setCell ⟨w.heap.size+1,2,none⟩ (.slice (some ⟨g19,0,none⟩) k k)):=(((Mod.refl (fun b=>b=w.heap.size+1) wr).setCell (p:=⟨w.heap.size+1,0,none⟩) rfl _).setCell (p:=⟨w.heap.size+1,1,none⟩) rfl _).setCell (p:=⟨w.heap.size+1,2,none⟩) rfl _
    obtain⟨WZ,hWZ⟩:∃WZ,((wr.setCell ⟨w.heap.size+1,0,none⟩ (.int .i64 (lv:Nat))).setCell ⟨w.heap.size+1,1,none⟩ (.slice (some ⟨g16,0,none⟩) k k)).setCell ⟨w.heap.size+1,2,none⟩ (.slice (some ⟨g19,0,none⟩) k k)=WZ:=⟨_,rfl⟩
    rw[hWZ]at hR hMd ⊢
    clear hWZ
    have e0:WZ.cell? ⟨w.heap.size+1,0,none⟩=some (.int .i64 (lv:Nat)):=by rw[hR.cell];rfl
    have e1:WZ.cell? ⟨w.heap.size+1,1,none⟩=some (.slice (some ⟨g16,0,none⟩) k k):=by rw[hR.cell];rfl
    have e2:WZ.cell? ⟨w.heap.size+1,2,none⟩=some (.slice (some ⟨g19,0,none⟩) k k):=by rw[hR.cell];rfl
    have HMZ:=KO hMd
    clear hR hMd
    refine KV (v:= .agg #[.int .i64 (lv:Nat),.slice (some ⟨g16,0,none⟩) k k,.slice (some ⟨g19,0,none⟩) k k]) (by simp[results,results114,go_sem,e0,e1,e2]) rfl ?_
    refine⟨⟨(lv:Nat),MX,CT,some ⟨g16,0,none⟩,some ⟨g19,0,none⟩,k,k⟩,?_,rfl,rfl,rfl,?_,?_⟩
    ·show _=Ending.returned (.agg #[.int .i64 (lv:Nat),.slice (some ⟨g16,0,none⟩) MX.length k,.slice (some ⟨g19,0,none⟩) CT.length k])
     rw[HLL.out.1,HLL.out.2]
    ·exact Gx (HHB.out.mod HMZ.out (bI HHB.out HRR.out (by decide))) (HHC.out.mod HMZ.out (bI HHC.out HRR.out (by decide))) HNE.out.2.2.2.1 HNE.out.2.2.2.2.1 _
    ·exact HBX.out.trans (HMZ.out.below HBX.out.size (fun b hb=>by have hb:b=w.heap.size+1:=hb;omega))
 case hstep=>
  rintro L a W i o ho hLi hdep ⟨X,t13,t14,t15,t16,t17,t18,t19,t20,t4,g16,g19,g8,rfl,hb,hX,f0,f1,f2,f3,f4,f5,f6,f7,f8,f9,im7_3,im7_6,im9_3,im9_6,im9_8⟩
  have F0:=KO f0
  have F1:=KO f1
  have F2:=KO f2
  have F3:=KO f3
  have F4:=KO f4
  have F5:=KO f5
  have F6:=KO f6
  have F7:=KO f7
  have F8:=KO f8
  have F9:=KO f9
  have IM7_3:=KO im7_3
  have IM7_6:=KO im7_6
  have IM9_3:=KO im9_3
  have IM9_6:=KO im9_6
  have IM9_8:=KO im9_8
  clear f0 f1 f2 f3 f4 f5 f6 f7 f8 f9 im7_3 im7_6 im9_3 im9_6 im9_8
  have HLi:=KO hLi
  clear hLi
  match i,ho with
  |0,ho=>
   obtain rfl:=KQ ho
   clear hdep
   have HB:=KO hb
   have HX:=KO hX
   refine KT rfl (fun K1 hK1=>?_)
   have hK:=KO hK1
   clear hK1
   go_wp2_with fail
   exact hK.out _ _ ⟨X,_,_,_,_,_,_,_,_,_,g16,g19,g8,rfl,HB.out,HX.out,fun _=>rfl,F1.out,F2.out,F3.out,F4.out,F5.out,F6.out,F7.out,F8.out,F9.out,fun h=>by have:=IM7_3.out (by simpa using h);simp[this],fun h=>by have:=IM7_6.out (by simpa using h);simp[this],fun h=>by have:=IM9_3.out (by simpa using h);simp[this],fun h=>by have:=IM9_6.out (by simpa using h);simp[this],fun h=>by have:=IM9_8.out (by simpa using h);simp[this]⟩
  |1,ho=>
   obtain rfl:=KQ ho
   clear hdep
   have HB:=KO hb
   have HX:=KO hX
   refine KT rfl (fun K1 hK1=>?_)
   have hK:=KO hK1
   clear hK1
   go_wp2_with fail
   exact hK.out _ _ ⟨X,_,_,_,_,_,_,_,_,_,g16,g19,g8,rfl,HB.out,HX.out,F0.out,fun _=>rfl,F2.out,F3.out,F4.out,F5.out,F6.out,F7.out,F8.out,F9.out,fun h=>by have:=IM7_3.out (by simpa using h);simp[this],fun h=>by have:=IM7_6.out (by simpa using h);simp[this],fun h=>by have:=IM9_3.out (by simpa using h);simp[this],fun h=>by have:=IM9_6.out (by simpa using h);simp[this],fun h=>by have:=IM9_8.out (by simpa using h);simp[this]⟩
  |2,ho=>
   obtain rfl:=KQ ho
   have hl1:=hdep ⟨1,.data⟩ (by simp) rfl
   have z1:=F1.out hl1
   obtain rfl:=z1
   clear hdep
   have HB:=KO hb
   have HX:=KO hX
   refine KT rfl (fun K1 hK1=>?_)
   have hK:=KO hK1
   clear hK1
   go_wp2_with (go_at_call 134;refine(HMA.out _).mono ?_;rintro e1 W1 ⟨rfl,hw1⟩)
   subst hw1
   have hb1:=KR W1.heap.size W1
   exact hK.out _ _ ⟨X,_,_,_,_,_,_,_,_,_,g16,g19,g8,rfl,aa HB.out hb1,fun k hk=>⟨(HX.out k hk).1,Nat.lt_of_lt_of_le (HX.out k hk).2 hb1.size⟩,F0.out,fun h=>rfl,fun _=>rfl,fun h=>⟨(F3.out (by simpa using h)).1,(F3.out (by simpa using h)).2.ext hb1⟩,F4.out,F5.out,fun h=>⟨(F6.out (by simpa using h)).1,(F6.out (by simpa using h)).2.ext hb1⟩,F7.out,fun h=>⟨(F8.out (by simpa using h)).1,(F8.out (by simpa using h)).2.1,(F8.out (by simpa using h)).2.2.ext hb1⟩,fun h=>(F9.out (by simpa using h)).ext hb1,fun h=>by have:=IM7_3.out (by simpa using h);simp[this],fun h=>by have:=IM7_6.out (by simpa using h);simp[this],fun h=>by have:=IM9_3.out (by simpa using h);simp[this],fun h=>by have:=IM9_6.out (by simpa using h);simp[this],fun h=>by have:=IM9_8.out (by simpa using h);simp[this]⟩
  |3,ho=>
   obtain rfl:=KQ ho
   have hl2:=hdep ⟨2,.data⟩ (by simp) rfl
   have z2:=F2.out hl2
   obtain rfl:=z2
   clear hdep
   have HB:=KO hb
   have HX:=KO hX
   have hmk:=HK1.out
   refine KT rfl (fun K1 hK1=>?_)
   have hK:=KO hK1
   clear hK1
   go_wp2_with fail
   have hb1:Below W.heap.size W (W.alloc (.cells (madeCells #[.int .i64 0] (N*1)) 2)):=(KR _ _).alloc (KS _) _
   have hhd:Held X (fun W2=>w.heap.size<=W.heap.size/\Blk W2 W.heap.size 2 (MU N (LB .i64 0)).toArray) (W.alloc (.cells (madeCells #[.int .i64 0] (N*1)) 2)):=aT (kX (X:=X) (by have hq:=Blk.new W 2 (madeCells #[.int .i64 0] (N*1));rw[HMX.out]at hq;rw[HMX.out];exact hq) (fun hx=>absurd (HX.out _ hx).2 (Nat.lt_irrefl _))) (fun W2 h2=>⟨KY HB0.out.size HB.out.size,h2⟩)
   obtain⟨W1,hW1⟩:∃W1,W.alloc (.cells (madeCells #[.int .i64 0] (N*1)) 2)=W1:=⟨_,rfl⟩
   have hW2:=hW1
   rw[Nat.mul_one]at hW2
   rw[hW1]at hb1 hhd
   first|rw[hW1]|rw[hW2]
   clear hW1 hW2
   exact hK.out _ _ ⟨X,_,_,_,_,_,_,_,_,_,W.heap.size,g19,g8,rfl,aa HB.out hb1,fun k hk=>⟨(HX.out k hk).1,Nat.lt_of_lt_of_le (HX.out k hk).2 hb1.size⟩,F0.out,F1.out,fun h=>rfl,fun _=>⟨rfl,hhd⟩,F4.out,F5.out,fun h=>⟨(F6.out (by simpa using h)).1,(F6.out (by simpa using h)).2.ext hb1⟩,fun h=>absurd (IM7_3.out (by simpa using h)) (by rw[HLi.out];exact KP),fun h=>⟨(F8.out (by simpa using h)).1,(F8.out (by simpa using h)).2.1,(F8.out (by simpa using h)).2.2.ext hb1⟩,fun h=>absurd (IM9_3.out (by simpa using h)) (by rw[HLi.out];exact KP),fun _=>by simp,fun h=>by have:=IM7_6.out (by simpa using h);simp[this],fun _=>by simp,fun h=>by have:=IM9_6.out (by simpa using h);simp[this],fun h=>by have:=IM9_8.out (by simpa using h);simp[this]⟩
  |4,ho=>
   obtain rfl:=KQ ho
   clear hdep
   have HB:=KO hb
   have HX:=KO hX
   refine KT rfl (fun K1 hK1=>?_)
   have hK:=KO hK1
   clear hK1
   go_wp2_with fail
   exact hK.out _ _ ⟨X,_,_,_,_,_,_,_,_,_,g16,g19,g8,rfl,HB.out,HX.out,F0.out,F1.out,F2.out,F3.out,fun _=>rfl,F5.out,F6.out,F7.out,F8.out,F9.out,fun h=>by have:=IM7_3.out (by simpa using h);simp[this],fun h=>by have:=IM7_6.out (by simpa using h);simp[this],fun h=>by have:=IM9_3.out (by simpa using h);simp[this],fun h=>by have:=IM9_6.out (by simpa using h);simp[this],fun h=>by have:=IM9_8.out (by simpa using h);simp[this]⟩
  |5,ho=>
   obtain rfl:=KQ ho
   have hl4:=hdep ⟨4,.data⟩ (by simp) rfl
   have z4:=F4.out hl4
   obtain rfl:=z4
   have hl2:=hdep ⟨2,.chain⟩ (by simp) rfl
   have z2:=F2.out hl2
   obtain rfl:=z2
   clear hdep
   have HB:=KO hb
   have HX:=KO hX
   refine KT rfl (fun K1 hK1=>?_)
   have hK:=KO hK1
   clear hK1
   go_wp2_with (go_at_call 134;refine(HMA.out _).mono ?_;rintro e1 W1 ⟨rfl,hw1⟩)
   subst hw1
   have hb1:=KR W1.heap.size W1
   exact hK.out _ _ ⟨X,_,_,_,_,_,_,_,_,_,g16,g19,g8,rfl,aa HB.out hb1,fun k hk=>⟨(HX.out k hk).1,Nat.lt_of_lt_of_le (HX.out k hk).2 hb1.size⟩,F0.out,F1.out,fun h=>rfl,fun h=>⟨(F3.out (by simpa using h)).1,(F3.out (by simpa using h)).2.ext hb1⟩,fun h=>rfl,fun _=>rfl,fun h=>⟨(F6.out (by simpa using h)).1,(F6.out (by simpa using h)).2.ext hb1⟩,F7.out,fun h=>⟨(F8.out (by simpa using h)).1,(F8.out (by simpa using h)).2.1,(F8.out (by simpa using h)).2.2.ext hb1⟩,fun h=>(F9.out (by simpa using h)).ext hb1,fun h=>by have:=IM7_3.out (by simpa using h);simp[this],fun h=>by have:=IM7_6.out (by simpa using h);simp[this],fun h=>by have:=IM9_3.out (by simpa using h);simp[this],fun h=>by have:=IM9_6.out (by simpa using h);simp[this],fun h=>by have:=IM9_8.out (by simpa using h);simp[this]⟩
  |6,ho=>
   obtain rfl:=KQ ho
   have hl5:=hdep ⟨5,.data⟩ (by simp) rfl
   have z5:=F5.out hl5
   obtain rfl:=z5
   clear hdep
   have HB:=KO hb
   have HX:=KO hX
   have hmk:=HK2.out
   refine KT rfl (fun K1 hK1=>?_)
   have hK:=KO hK1
   clear hK1
   go_wp2_with fail
   have hb1:Below W.heap.size W (W.alloc (.cells (madeCells #[.int .i64 0] (N*1)) 3)):=(KR _ _).alloc (KS _) _
   have hhd:Held X (fun W2=>w.heap.size<=W.heap.size/\Blk W2 W.heap.size 3 (MU N (LB .i64 0)).toArray) (W.alloc (.cells (madeCells #[.int .i64 0] (N*1)) 3)):=aT (kX (X:=X) (by have hq:=Blk.new W 3 (madeCells #[.int .i64 0] (N*1));rw[HMX.out]at hq;rw[HMX.out];exact hq) (fun hx=>absurd (HX.out _ hx).2 (Nat.lt_irrefl _))) (fun W2 h2=>⟨KY HB0.out.size HB.out.size,h2⟩)
   obtain⟨W1,hW1⟩:∃W1,W.alloc (.cells (madeCells #[.int .i64 0] (N*1)) 3)=W1:=⟨_,rfl⟩
   have hW2:=hW1
   rw[Nat.mul_one]at hW2
   rw[hW1]at hb1 hhd
   first|rw[hW1]|rw[hW2]
   clear hW1 hW2
   exact hK.out _ _ ⟨X,_,_,_,_,_,_,_,_,_,g16,W.heap.size,g8,rfl,aa HB.out hb1,fun k hk=>⟨(HX.out k hk).1,Nat.lt_of_lt_of_le (HX.out k hk).2 hb1.size⟩,F0.out,F1.out,F2.out,fun h=>⟨(F3.out (by simpa using h)).1,(F3.out (by simpa using h)).2.ext hb1⟩,F4.out,fun h=>rfl,fun _=>⟨rfl,hhd⟩,fun h=>absurd (IM7_6.out (by simpa using h)) (by rw[HLi.out];exact KP),fun h=>⟨(F8.out (by simpa using h)).1,(F8.out (by simpa using h)).2.1,(F8.out (by simpa using h)).2.2.ext hb1⟩,fun h=>absurd (IM9_6.out (by simpa using h)) (by rw[HLi.out];exact KP),fun h=>by have:=IM7_3.out (by simpa using h);simp[this],fun _=>by simp,fun h=>by have:=IM9_3.out (by simpa using h);simp[this],fun _=>by simp,fun h=>by have:=IM9_8.out (by simpa using h);simp[this]⟩
  |7,ho=>
   obtain rfl:=KQ ho
   have hl0:=hdep ⟨0,.data⟩ (by simp) rfl
   have z0:=F0.out hl0
   obtain rfl:=z0
   have hl3:=hdep ⟨3,.data⟩ (by simp) rfl
   have z3:=F3.out hl3
   have zz3:=z3.2
   obtain rfl:=z3.1
   clear z3
   have z3:=KO zz3
   clear zz3
   have hl6:=hdep ⟨6,.data⟩ (by simp) rfl
   have z6:=F6.out hl6
   have zz6:=z6.2
   obtain rfl:=z6.1
   clear z6
   have z6:=KO zz6
   clear zz6
   clear hdep
   have HB:=KO hb
   have HX:=KO hX
   refine KT rfl (fun K1 hK1=>?_)
   have hK:=KO hK1
   clear hK1
   go_wp2_with fail
   exact hK.out _ _ ⟨X,_,_,_,_,_,_,_,_,_,g16,g19,g8,rfl,HB.out,HX.out,fun h=>rfl,F1.out,F2.out,fun h=>⟨rfl,z3.out⟩,F4.out,F5.out,fun h=>⟨rfl,z6.out⟩,fun _=>rfl,F8.out,F9.out,fun _=>by simp[hl3],fun _=>by simp[hl6],fun h=>by have:=IM9_3.out (by simpa using h);simp[this],fun h=>by have:=IM9_6.out (by simpa using h);simp[this],fun h=>by have:=IM9_8.out (by simpa using h);simp[this]⟩
  |8,ho=>
   obtain rfl:=KQ ho
   clear hdep
   have HB:=KO hb
   have HX:=KO hX
   refine KT rfl (fun K1 hK1=>?_)
   have hK:=KO hK1
   clear hK1
   go_wp2_with fail
   have hb1:Below W.heap.size W (W.alloc (.cells #[.int .i64 0,.slice none 0 0,.slice none 0 0] 33)):=(KR _ _).alloc (KS _) _
   exact hK.out _ _ ⟨(fun k=>X k∨k=W.heap.size),t13,t14,t15,t16,t17,t18,t19,t20,_,g16,g19,W.heap.size,rfl,HB.out.alloc HB.out.size _,fun k hk=>hk.elim (fun q=>⟨(HX.out k q).1,Nat.lt_of_lt_of_le (HX.out k q).2 hb1.size⟩) (fun q=>by subst q;exact⟨HB.out.size,by simp⟩),F0.out,F1.out,F2.out,fun h=>⟨(F3.out (by simpa using h)).1,(F3.out (by simpa using h)).2.join (Mod.of_ext hb1) (fun k hk hx=>hx.elim id (fun q=>absurd q (by omega)))⟩,F4.out,F5.out,fun h=>⟨(F6.out (by simpa using h)).1,(F6.out (by simpa using h)).2.join (Mod.of_ext hb1) (fun k hk hx=>hx.elim id (fun q=>absurd q (by omega)))⟩,F7.out,fun _=>⟨rfl,.inr rfl,aT (kX (X:=fun k=>(X k∨k=W.heap.size)/\k≠W.heap.size) (Blk.new W 33 #[.int .i64 0,.slice none 0 0,.slice none 0 0]) (fun hx=>hx.2 rfl)) (fun W2 h2=>⟨_,_,_,h2⟩)⟩,fun h=>absurd (IM9_8.out (by simpa using h)) (by rw[HLi.out];exact KP),fun h=>by have:=IM7_3.out (by simpa using h);simp[this],fun h=>by have:=IM7_6.out (by simpa using h);simp[this],fun h=>by have:=IM9_3.out (by simpa using h);simp[this],fun h=>by have:=IM9_6.out (by simpa using h);simp[this],fun _=>by simp⟩
  |9,ho=>
   obtain rfl:=KQ ho
   have hl8:=hdep ⟨8,.data⟩ (by simp) rfl
   have z8:=F8.out hl8
   have zz8:=z8.2
   obtain rfl:=z8.1
   clear z8
   have z8:=KO zz8
   clear zz8
   have hl7:=hdep ⟨7,.data⟩ (by simp) rfl
   have z7:=F7.out hl7
   obtain rfl:=z7
   have hl3:=IM7_3.out hl7
   have z3:=F3.out hl3
   have zz3:=z3.2
   obtain rfl:=z3.1
   clear z3
   have z3:=KO zz3
   clear zz3
   have hl6:=IM7_6.out hl7
   have z6:=F6.out hl6
   have zz6:=z6.2
   obtain rfl:=z6.1
   clear z6
   have z6:=KO zz6
   clear zz6
   have hl5:=hdep ⟨5,.chain⟩ (by simp) rfl
   have z5:=F5.out hl5
   obtain rfl:=z5
   clear hdep
   have HB:=KO hb
   have HX:=KO hX
   refine KT rfl (fun K1 hK1=>?_)
   have hK:=KO hK1
   clear hK1
   obtain⟨hxg,hbx⟩:=z8.out
   obtain⟨x0,x1,x2,hbk⟩:=hbx.now
   have q0:W.cell? ⟨g8,0,none⟩=some x0:=hbk.cell 0
   have r0:=hbk.frozen 0
   have q1:W.cell? ⟨g8,1,none⟩=some x1:=hbk.cell 1
   have r1:=hbk.frozen 1
   have q2:W.cell? ⟨g8,2,none⟩=some x2:=hbk.cell 2
   have r2:=hbk.frozen 2
   have lg:=hbk.lt
   go_wp2_with fail
   have hm1:∀Y:Nat->Prop,Y g8->Mod Y W (((W.setCell ⟨g8,0,none⟩ (.int .i64 (lv:Nat))).setCell ⟨g8,1,none⟩ (.slice (some ⟨g16,0,none⟩) N N)).setCell ⟨g8,2,none⟩ (.slice (some ⟨g19,0,none⟩) N N)):=fun Y hY=>((((Mod.refl Y W).setCell (p:=⟨g8,0,none⟩) hY _).setCell (p:=⟨g8,1,none⟩) hY _).setCell (p:=⟨g8,2,none⟩) hY _)
   have hbn:Blk (((W.setCell ⟨g8,0,none⟩ (.int .i64 (lv:Nat))).setCell ⟨g8,1,none⟩ (.slice (some ⟨g16,0,none⟩) N N)).setCell ⟨g8,2,none⟩ (.slice (some ⟨g19,0,none⟩) N N)) g8 33 #[.int .i64 (lv:Nat),.slice (some ⟨g16,0,none⟩) N N,.slice (some ⟨g19,0,none⟩) N N]:=by simpa using((hbk.set_ 0 (.int .i64 (lv:Nat))).set_ 1 (.slice (some ⟨g16,0,none⟩) N N)).set_ 2 (.slice (some ⟨g19,0,none⟩) N N)
   have hle:W0.heap.size<=g8:=(HX.out _ hxg).1
   have hbl:Below W0.heap.size W0 (((W.setCell ⟨g8,0,none⟩ (.int .i64 (lv:Nat))).setCell ⟨g8,1,none⟩ (.slice (some ⟨g16,0,none⟩) N N)).setCell ⟨g8,2,none⟩ (.slice (some ⟨g19,0,none⟩) N N)):=(((HB.out.setCell (p:=⟨g8,0,none⟩) hle _).setCell (p:=⟨g8,1,none⟩) hle _).setCell (p:=⟨g8,2,none⟩) hle _)
   obtain⟨W1,hW1⟩:∃W1,(((W.setCell ⟨g8,0,none⟩ (.int .i64 (lv:Nat))).setCell ⟨g8,1,none⟩ (.slice (some ⟨g16,0,none⟩) N N)).setCell ⟨g8,2,none⟩ (.slice (some ⟨g19,0,none⟩) N N))=W1:=⟨_,rfl⟩
   rw[hW1]at hm1 hbn hbl
   rw[hW1]
   clear hW1
   exact hK.out _ _ ⟨X,_,_,_,_,_,_,_,_,_,g16,g19,g8,rfl,hbl,fun k hk=>⟨(HX.out k hk).1,Nat.lt_of_lt_of_le (HX.out k hk).2 (hm1 X hxg).size⟩,F0.out,F1.out,F2.out,fun h=>⟨rfl,z3.out.step (hm1 _ hxg)⟩,F4.out,fun h=>rfl,fun h=>⟨rfl,z6.out.step (hm1 _ hxg)⟩,fun h=>rfl,fun h=>⟨rfl,z8.out.1,aT (kX hbn (fun hx=>hx.2 rfl)) (fun W2 h2=>⟨_,_,_,h2⟩)⟩,fun _=>kX hbn (fun hx=>hx.2 rfl),fun h=>by have:=IM7_3.out (by simpa using h);simp[this],fun h=>by have:=IM7_6.out (by simpa using h);simp[this],fun _=>by simp[hl3],fun _=>by simp[hl6],fun _=>by simp[hl8]⟩
theorem wI:(prog.info? 33).map (·.size)=some 3:=by kernel_rfl
def Cf (c:Cfg) (s:Ss) (x:Ix) (w:World) (r:Ending) (w':World):Prop:=∃(s2:Ss) (x2:Ix),r= .returned (.agg (cK c s2 x2))/\SsLike s s2/\IxLike x x2/\Held (fun k=>k< w.heap.size) (fun W=>SsAt W s2/\IxAt W x2) w'/\Below w.heap.size w w'
theorem FH {P:Prop} (h:P:=by
 obtain⟨W0,hW0,hb0,b0,br0⟩:=yN w 35 (cK c s x) 35 #[.int .u8 0,.int .i64 0,.int .i64 0,.int .i64 0,.int .i64 0,.int .i64 0,.int .i64 0,.int .i64 0,.int .i64 0,.int .i64 0,.slice none 0 0,.slice none 0 0,.slice none 0 0,.slice none 0 0,.int .u64 0,.int .i64 0,.slice none 0 0,.slice none 0 0]
 first|(have mz:=mk0;clear mz;have HTP:=KO (fun W (h:Below w.heap.size w W)=>ru c s W (hs.below h) ho))|(have mz:=mk1;clear mz;have HTP:=KO (fun W (h:Below w.heap.size w W)=>rW c s W (hs.below h) ho))
 first|(have mz:=mk0;clear mz;have HTX:=KO (fun W (h:Below w.heap.size w W)=>zA x W (hx.below h) hp))|(have mz:=mk1;clear mz;have HTX:=KO (fun W (h:Below w.heap.size w W)=>zi x W (hx.below h) hp))
 have HW0:=KO hW0
 have HB0:=KO hb0
 have HC0:=KO b0
 have HR0:=KO br0
 clear hW0 hb0 b0 br0 hs ho hx hp
 first|go_enter func96,ntmps96|go_enter func27,ntmps27
 go_upto_region 1 with fail
 rw[HW0.out]
 refine aK (by kernel_rfl) 7 [.v [] fun v=>v 0= .pointer (some ⟨w.heap.size,0,none⟩),.v [0] fun v=>v 1= .agg (cB c s),.w [1] (fun v W=>∃s2:Ss,v 2= .agg (cB c s2)/\SsLike s s2/\Held (fun k=>k< W0.heap.size) (fun V=>SsAt V s2) W) (fun _ W W' hb h=>let ⟨x,p,q,r⟩:=h;⟨x,p,q,r.ext hb⟩),.v [] fun v=>v 3= .pointer (some ⟨w.heap.size,15,none⟩),.v [3] fun v=>v 4= .agg x.row,.w [4] (fun v W=>∃x2:Ix,v 5= .agg x2.row/\IxLike x x2/\Held (fun k=>k< W0.heap.size) (fun V=>IxAt V x2) W) (fun _ W W' hb h=>let ⟨x,p,q,r⟩:=h;⟨x,p,q,r.ext hb⟩),.w [2,5] (fun v W=>∃(s2:Ss) (x2:Ix),v 6= .agg (cK c s2 x2)/\(SsLike s s2/\Held (fun k=>k< W0.heap.size) (fun V=>SsAt V s2) W)/\IxLike x x2/\Held (fun k=>k< W0.heap.size) (fun V=>IxAt V x2) W) (fun _ W W' hb h=>let ⟨x,y,p,q,r⟩:=h;⟨x,y,p,⟨q.1,q.2.ext hb⟩,r.1,r.2.ext hb⟩)] [6] rfl rfl (by kernel_rfl) (by kernel_rfl) ⟨_,fun v=>by simp only[ou,Act.put,List.setIfInBounds_toArray,List.set_cons_zero,List.set_cons_succ];rfl,?_⟩
 simp only[iQ,oZ,dO,dV,gT,nC,dX,List.range,List.range.loop,List.range',List.getElem?_cons_zero,List.getElem?_cons_succ,TEnt.v,TEnt.w,RB,RM,Nat.reduceBEq,Nat.reduceLT,decide_true,decide_false,Bool.false_eq_true,Nat.reduceEqDiff,Nat.reduceAdd,Nat.reduceSub,if_true,if_false,↓reduceIte,List.size_toArray,List.length_cons,List.length_nil]
 refine⟨?_,?_,?_,?_,?_,?_,?_,fun v W hb=>?_⟩
 all_goals try intro v W K hb hK
 all_goals try (go_wp2_with fail;exact hK _ _ (KR _ _) rfl)
 ·intro h0
  rw[h0]at hK ⊢
  refine Mw 31 (.tmp 3) rfl w.heap.size 0 rfl _ _ (ae (HC0.out.below hb HC0.out.lt) 0 15 rfl) underlying31 rfl bK ?_
  exact hK _ _ (KR _ _) rfl
 ·intro h1
  rw[h1]at hK ⊢
  go_wp2_with (first|(go_at_call 95;refine(HTP.out _ (aa HB0.out hb)).mono ?_;rintro e1 W1 ⟨s3,rfl,hl2,hh2,hb1⟩)|(go_at_call 26;refine(HTP.out _ (aa HB0.out hb)).mono ?_;rintro e1 W1 ⟨s3,rfl,hl2,hh2,hb1⟩))
  exact hK _ _ hb1 ⟨s3,rfl,hl2,Held.join hh2 (Mod.refl _ _) (fun k _ hx=>Nat.lt_of_lt_of_le hx hb.size)⟩
 ·intro h3
  rw[h3]at hK ⊢
  refine Mw 33 (.tmp 6) rfl w.heap.size 15 rfl _ _ (ae (HC0.out.below hb HC0.out.lt) 15 3 rfl) underlying33 rfl wI ?_
  exact hK _ _ (KR _ _) rfl
 ·intro h4
  rw[h4]at hK ⊢
  go_wp2_with (first|(go_at_call 110;refine(HTX.out _ (aa HB0.out hb)).mono ?_;rintro e1 W1 ⟨x3,rfl,hl2,hh2,hb1⟩)|(go_at_call 51;refine(HTX.out _ (aa HB0.out hb)).mono ?_;rintro e1 W1 ⟨x3,rfl,hl2,hh2,hb1⟩))
  exact hK _ _ hb1 ⟨x3,rfl,hl2,Held.join hh2 (Mod.refl _ _) (fun k _ hx=>Nat.lt_of_lt_of_le hx hb.size)⟩
 ·intro h2 h5
  obtain⟨s2,h2,q2⟩:=h2
  obtain⟨x2,h5,q5⟩:=h5
  rw[h2,h5]at hK ⊢
  go_wp2_with fail
  exact hK _ _ (KR _ _) ⟨s2,x2,rfl,q2,q5⟩
 intro h6
 obtain⟨s2,x2,h6,q2,q5⟩:=h6
 rw[h6]
 have hg:=HR0.out.below hb HR0.out.lt
 have hn:=Blk.setCells (cK c s2 x2).toList 0 _ _ hg
 refine KT rfl fun K hK=>?_
 refine aF rfl 35 (.tmp 2) (.tmp 9) rfl (w.heap.size+1) 0 (cK c s2 x2) rfl rfl (aY hg 0 18 (by simp)) iy (Ld (by simp[K5])) ?_
 refine hK _ _ ?_
 have HB3:=KO (aS (Mm _) (cK c s2 x2).toList 0 _ (aa HB0.out hb))
 have HMZ:=KO (aL (S:=fun k=>k< W0.heap.size) HR0.out.lt (cK c s2 x2).toList 0 W)
 obtain⟨V,hV⟩:∃V,W.setCells (w.heap.size+1) 0 (cK c s2 x2).toList=V:=⟨_,rfl⟩
 rw[hV]at HB3 HMZ hn ⊢
 have hn2:Blk V (w.heap.size+1) 35 (cK c s2 x2):=by simpa[dn]using hn
 have pp:=hn2.cell
 clear hV hn hn2 hg hK h6 K
 try simp only[oZ]
 go_wp2_with fail
 first|(have mz:=mk0;clear mz;refine KV (v:= .agg (cK c s2 x2)) (by simp[results,results96,go_sem,pp]) rfl ?_)|(have mz:=mk1;clear mz;refine KV (v:= .agg (cK c s2 x2)) (by simp[results,results27,go_sem,pp]) rfl ?_)
 exact⟨s2,x2,rfl,q2.1,q5.1,Held.join (X:=fun k=>k< W0.heap.size) (fun W2 h2=>KW (q2.2 W2 (HMZ.out.trans h2)) (q5.2 W2 (HMZ.out.trans h2))) (Mod.refl _ _) (fun k _ hx=>Nat.lt_of_lt_of_le hx HB0.out.size),HB3.out⟩):P:=h
theorem Br (c:Cfg) (s:Ss) (x:Ix) (w:World) (hs:SsAt w s) (hx:IxAt w x) (ho:SsOk s) (hp:IxOk x):Calls prog 96 #[.agg (cK c s x)] w (Cf c s x w):=by
 have mk0:=()
 exact FH
section
def Fr (w:World) (B:Nat) (t:TypeId) (A:Option Addr) (c:Nat) (l:List Pr):Prop:=
 l.length<=c/\c<=maxLen/\((A=none/\l=[]/\c=0)∨∃g cur,A=some ⟨g,0,none⟩/\B<=g/\Blk w g t cur/\cur.toList.take (l.length*2)=l.flatMap Pr.cells/\c*2<=cur.size)
section
variable {w w':World} {B:Nat} {t:TypeId} {A:Option Addr} {c:Nat} {l:List Pr}
theorem dG (l:List Pr):(l.flatMap Pr.cells).length=l.length*2:=aQ Pr.cells 2 Pr.cells_length l
theorem Fr.nil:Fr w B t none 0 []:=⟨KS _,by unfold maxLen;omega,.inl ⟨rfl,rfl,rfl⟩⟩
theorem Fr.of_own {n:Nat} (h:w.ownsRow B t 2 (.slice A n c) n (l.flatMap Pr.cells)) (hn:n=l.length):Fr w B t A c l:=by
 subst hn
 rcases h.2 with⟨h1,h2⟩|⟨g,cap,cur,h1,h2,h3,h4,h5,h6,h7⟩
 ·have:l=[]:=LM h2
  subst this
  injection h1 with e1 e2 e3
  subst e1 e3
  exact Fr.nil
 ·injection h1 with e1 e2 e3
  subst e1 e3
  exact⟨h4,h5,.inr ⟨g,cur,rfl,h2,h3,h7,by omega⟩⟩
def rZ (A:Option Addr) (k m:Nat):Option Addr:=if m=k then A else A.map (·.add (k*2))
theorem vC (l:List Pr) (k:Nat):(l.flatMap Pr.cells).take (k*2)=(l.take k).flatMap Pr.cells:=by
 by_cases h:k<=l.length
 ·have e:l.flatMap Pr.cells=(l.take k).flatMap Pr.cells++(l.drop k).flatMap Pr.cells:=by rw[<-L9,List.take_append_drop]
  rw[e,List.take_left' (by rw[dG];simp;omega)]
 ·rw[KZ (by rw[dG];omega),KZ (by omega)]
theorem oJ (l:List Pr) (k:Nat):(l.flatMap Pr.cells).drop (k*2)=(l.drop k).flatMap Pr.cells:=by
 by_cases h:k<=l.length
 ·have e:l.flatMap Pr.cells=(l.take k).flatMap Pr.cells++(l.drop k).flatMap Pr.cells:=by rw[<-L9,List.take_append_drop]
  rw[e,List.drop_left' (by rw[dG];simp;omega)]
 ·rw[MG (by rw[dG];omega),MG (by omega)];rfl
theorem Sl.take (h:Sl w A (l.flatMap Pr.cells)) (k:Nat):Sl w A ((l.take k).flatMap Pr.cells):=by
 rcases h with h|⟨b,off,h1,h2,h3⟩
 ·left;rw[<-vC,h];simp
 ·refine .inr ⟨b,off,h1,h2,fun j u hu=>h3 j u ?_⟩
  rw[<-vC,List.getElem?_take]at hu
  split at hu
  ·exact hu
  ·cases hu
theorem Sl.drop (h:Sl w A (l.flatMap Pr.cells)) (k m:Nat) (hm:l.length<=m):Sl w (rZ A k m) ((l.drop k).flatMap Pr.cells):=by
 unfold rZ
 split
 ·rename_i e
  left
  rw[<-oJ,MG (by rw[dG];omega)]
 ·rcases h with h|⟨b,off,h1,h2,h3⟩
  ·left;rw[<-oJ,h];simp
  ·subst h1
   refine .inr ⟨b,off+k*2,by simp[Addr.add_lit],h2,fun j u hu=>?_⟩
   rw[<-oJ,List.getElem?_drop]at hu
   have:=h3 _ u hu
   rwa [Nat.add_assoc]
end
theorem qy {P:Program} (w:World) (t ty e:TypeId) (i:TypeInfo) (z:Value) (size bytes:Nat) (ht:P.underlying t=some (.slice e)) (hi:P.info? e=some i) (hz:i.zero=some z)
  (hsize:i.size=size) (hby:i.bytes=bytes) (hzs:z.cells.size=size) (hsz:0< size)
  (A:Option Addr) (n:Nat) (olds:List Value) (hA:A=none->n=0) (ho:Sl w A olds) (hlo:olds.length=n*size)
  (A':Option Addr) (m c:Nat) (news:List Value) (hr:Sl w A' news) (hl:news.length=m*size) (h1:∀u∈news,u.oneCell'=true)
  (h63:n+m<=maxLen) (hbytes:(n+m)*bytes<=140737488355328):
  ∃v' w',(Builtin.append_ #[t,t] ty #[.slice A n n,.slice A' m c]).run P w= .ok v' w'/\
   (0< m->w'.ownsRow w.heap.size e size v' (n+m) (olds++news))/\(m=0->v'= .slice A n n/\w'=w)/\w.grownBy w' none:=by
 by_cases hm:m=0
 ·subst hm
  refine⟨.slice A n n,w,?_,by omega,fun _=>⟨rfl,rfl⟩,World.grownBy.refl w _⟩
  cases A' with
  |none=>
   cases A with
   |none=>have:=hA rfl;subst this;simp[Builtin.append_,run_underlying ht,sizeOf,typeInfo,hi,Builtin.lenOf,Builtin.firstCells]
   |some a=>simp[Builtin.append_,run_underlying ht,sizeOf,typeInfo,hi,Builtin.lenOf,Builtin.firstCells,storeCells]
  |some a'=>
   cases A with
   |none=>have:=hA rfl;subst this;simp[Builtin.append_,run_underlying ht,sizeOf,typeInfo,hi,Builtin.lenOf,Builtin.firstCells,loadCells,loadCellsFrom]
   |some a=>simp[Builtin.append_,run_underlying ht,sizeOf,typeInfo,hi,Builtin.lenOf,Builtin.firstCells,storeCells,loadCells,loadCellsFrom]
 ·have hr':∃b off,A'=some ⟨b,off,none⟩/\∀j u,news[j]?=some u->w.cell? ⟨b,off+j,none⟩=some u:=by
   rcases hr with hr|⟨b,off,h1,_,h3⟩
   ·subst hr
    rw[List.length_nil]at hl
    have:=Nat.mul_pos (Nat.pos_of_ne_zero hm) hsz
    omega
   ·exact⟨b,off,h1,h3⟩
  obtain⟨b,off,rfl,hnews⟩:=hr'
  by_cases hn:n=0
  ·subst hn
   have:olds=[]:=LM (by simpa using hlo)
   subst this
   cases A with
   |none=>
    obtain⟨v',w',hrun,h2,h3,_⟩:=run_append_own (P:=P) w w.heap.size t ty e i z size bytes ht hi hz hsize hby hzs hsz (.slice none 0 0) 0 [] (World.ownsRow_nil w _ e size) ⟨b,off,none⟩ m c news hl
     (fun j u hu=>by rw[Addr.add_lit];exact hnews j u hu) h1 h63 hbytes (KS _)
    exact⟨v',w',hrun,fun _=>h2,fun h=>absurd h hm,h3⟩
   |some a=>
    obtain⟨v',w',hrun,h2,h3⟩:=run_append_arg_grows (P:=P) w t ty e i z size bytes ht hi hz hsize hby hzs hsz a 0 0 [] (by simp) (by simp) ⟨b,off,none⟩ m c news hl
     (fun j u hu=>by rw[Addr.add_lit];exact hnews j u hu) (by omega) h63 hbytes
    exact⟨v',w',hrun,fun _=>h2,fun h=>absurd h hm,h3⟩
  ·rcases ho with ho|⟨b',off',rfl,_,holds⟩
   ·subst ho
    rw[List.length_nil]at hlo
    have:=Nat.mul_pos (Nat.pos_of_ne_zero hn) hsz
    omega
   ·obtain⟨v',w',hrun,h2,h3⟩:=run_append_arg_grows (P:=P) w t ty e i z size bytes ht hi hz hsize hby hzs hsz ⟨b',off',none⟩ n n olds hlo (fun j u hu=>by rw[Addr.add_lit];exact holds j u hu) ⟨b,off,none⟩ m c news hl
     (fun j u hu=>by rw[Addr.add_lit];exact hnews j u hu) (by omega) h63 hbytes
    exact⟨v',w',hrun,fun _=>h2,fun h=>absurd h hm,h3⟩
theorem dF {P:Program} (w:World) {ops:Array Oper} {o:Oper} {a:Act} {K:Act->World->Prop} {Q:Exit->Act->World->Prop} {E:Prop} (hgd:o.guard=none) (s x:Operand) (t:TypeId)
  (ho:o.op= .call {callee:= .builtin .append,args:=#[s,x],argTypes:=#[t,t]})
  (e:TypeId) (i:TypeInfo) (z:Value) (size bytes:Nat) (ht:P.underlying t=some (.slice e)) (hi:P.info? e=some i) (hz:i.zero=some z)
  (hsize:i.size=size) (hby:i.bytes=bytes) (hzs:z.cells.size=size) (hsz:0< size)
  (A:Option Addr) (n:Nat) (olds:List Value) (hA:A=none->n=0) (hs:a.eval s= .slice A n n) (hol:Sl w A olds) (hlo:olds.length=n*size)
  (A':Option Addr) (m c:Nat) (news:List Value) (hx:a.eval x= .slice A' m c) (hr:Sl w A' news) (hl:news.length=m*size) (h1:∀u∈news,u.oneCell'=true)
  (h63:n+m<=maxLen) (hbytes:(n+m)*bytes<=140737488355328)
  (h:∀v' w',(0< m->w'.ownsRow w.heap.size e size v' (n+m) (olds++news))->(m=0->v'= .slice A n n/\w'=w)->w.grownBy w' none->K (a.put o.dst v') w'):
  if Region.wanted o (yielded ops a.tmps)=true then Oper.wp P o a w K Q else E:=by
 have hw:Region.wanted o (yielded ops a.tmps)=true:=by simp[Region.wanted,hgd]
 rw[if_pos hw]
 obtain⟨v',w',hrun,h2,h3,h4⟩:=qy (P:=P) w t o.type e i z size bytes ht hi hz hsize hby hzs hsz A n olds hA hol hlo A' m c news hr hl h1 h63 hbytes
 unfold Oper.wp execOp
 simp only[ho,resolve,invoke,builtin,Sem.run_bind,Sem.run_pure,Result.andThen_ok,List.map_toArray,List.map_cons,List.map_nil,hs,hx,hrun]
 exact h v' w' h2 h3 h4
end
theorem uV {W W1:World} {X:Nat->Prop} {t:TypeId} {l:List Int} {A:Option Addr} {v:Value} (h1:0< l.length->W1.ownsRow W.heap.size t 1 v (0+l.length) ([]++l.map iv)) (h2:l.length=0->v= .slice A 0 0/\W1=W) (hg:W.grownBy W1 none) (hX:∀k,X k->k< W.heap.size):
  ∃(A4:Option Addr) (c4:Nat),v= .slice A4 l.length c4/\Held X (fun W=>Sl W A4 (l.map iv)) W1/\Below W.heap.size W W1:=by
 have hb:Below W.heap.size W W1:=(KR _ _).grown hg (KS _) (fun k hk=>by cases hk)
 by_cases h0:l.length=0
 ·obtain⟨rfl,rfl⟩:=h2 h0
  have hl:=LM h0
  subst hl
  exact⟨A,0,rfl,fun _ _=> .inl rfl,hb⟩
 ·have h3:=h1 (by omega)
  rw[Nat.zero_add,List.nil_append]at h3
  obtain⟨A4,c4,rfl,_,_⟩:=ak h3
  exact⟨A4,c4,rfl,fun w2 hm=>aA (di h3 hm (fun k hk hx=>by have:=hX k hx;omega)),hb⟩
theorem gX {P:Prop} (h:P:=by
  iterate 17 apply Exists.intro
  refine⟨rfl,?_,?_,?_,?_,?_,?_,?_,?_,?_,?_,?_,?_,?_,?_,?_,?_,?_,?_,?_,?_,?_⟩
  ·first|exact aS (Mm _) _ 0 _ HB.out|exact HB.out|exact aa HB.out hb1
  ·first|(intro h;refine absurd h ?_;simp;done;done)|exact fun h=>⟨HG.out,HG1.out⟩|exact fun h=>⟨HG.out.below hb1 HG.out.lt,HG1.out.below hb1 HG1.out.lt⟩
  ·first|exact F0.out|exact fun _=>rfl
  ·first|exact F1.out|exact fun _=>rfl
  ·first|exact F2.out|exact fun _=>rfl
  ·first|exact F3.out|exact fun _=>rfl
  ·first|exact F4.out|exact fun _=>rfl
  ·first|exact(fun h=>⟨(F5.out (by simpa using h)).1,(F5.out (by simpa using h)).2.step (aL (by show w.heap.size+1< w.heap.size+2;omega) _ 0 _)⟩)|exact F5.out|exact fun _=>⟨rfl,hh4⟩|exact fun h=>⟨rfl,zz5.out⟩|exact(fun h=>⟨(F5.out (by simpa using h)).1,(F5.out (by simpa using h)).2.ext hb1⟩)
  ·first|exact F6.out|exact fun _=>rfl
  ·first|exact F7.out|exact fun _=>rfl
  ·first|exact F8.out|exact fun _=>rfl
  ·first|exact(fun h=>⟨(F9.out (by simpa using h)).1,(F9.out (by simpa using h)).2.step (aL (by show w.heap.size+1< w.heap.size+2;omega) _ 0 _)⟩)|exact F9.out|exact fun _=>⟨rfl,hh4⟩|exact fun h=>⟨rfl,zz9.out⟩|exact(fun h=>⟨(F9.out (by simpa using h)).1,(F9.out (by simpa using h)).2.ext hb1⟩)
  ·first|exact F10.out|exact fun _=>rfl|exact(fun h=>absurd (show L 10=true by simpa using h) (by intro h;exact absurd ((C10.out h).2.1) (by rw[HLi.out];exact KP)))|exact(fun h=>absurd (show L 10=true by simpa using h) (by intro h;exact absurd ((C10.out h).2.2) (by rw[HLi.out];exact KP)))
  ·first|exact(fun h=>absurd (show L 11=true by simpa using h) (by rw[hlast];exact KP))|(intro _;simpa[dn]using Blk.setCells (#[.int .i64 x.lev,.slice A8 x.mx.length c8,.slice A12 x.ct.length c12]:Array Value).toList 0 _ _ HG1.out;done)
  ·first|(intro h;have hh:=C1.out (by simpa using h);simp[hh];done)|(intro _;simp[hl0];done)
  ·first|(intro h;have hh:=C4.out (by simpa using h);simp[hh];done)|(intro _;simp[hl3];done)
  ·first|(intro h;have hh:=C5.out (by simpa using h);simp[hh];done)|(intro _;simp[hl2,hl4];done)
  ·first|(intro h;have hh:=C8.out (by simpa using h);simp[hh];done)|(intro _;simp[hl7];done)
  ·first|(intro h;have hh:=C9.out (by simpa using h);simp[hh];done)|(intro _;simp[hl6,hl8];done)
  ·first|(intro h;have hh:=C10.out (by simpa using h);simp[hh];done)|(intro _;simp[hl1,hl5,hl9];done)
  ·first|(intro h;have hh:=C11.out (by simpa using h);simp[hh];done)|(intro _;simp[hl10];done)):P:=h
theorem zi (x:Ix) (w:World) (hs:IxAt w x) (ho:IxOk x):Calls prog 51 #[.agg x.row] w (Cy x w):=by
 obtain⟨W0,hW0⟩:∃W0,(w.alloc (.cells x.row 33)).alloc (.cells #[.int .i64 0,.slice none 0 0,.slice none 0 0] 33)=W0:=⟨_,rfl⟩
 have hb0:Below w.heap.size w W0:=by rw[<-hW0];exact((KR _ _).alloc (KS _) _).alloc (by simp) _
 have b0:Blk W0 w.heap.size 33 #[.int .i64 x.lev,.slice x.mA x.mx.length x.mc,.slice x.cA x.ct.length x.cc]:=by rw[<-hW0];exact(Blk.new _ _ _).alloc _
 have br0:Blk W0 (w.heap.size+1) 33 #[.int .i64 0,.slice none 0 0,.slice none 0 0]:=by
  rw[<-hW0]
  have:=Blk.new (w.alloc (.cells x.row 33)) 33 #[.int .i64 0,.slice none 0 0,.slice none 0 0]
  rwa [World.size_alloc]at this
 obtain⟨tiI,hiI,hzI0,hzI1,hzI2⟩:=LU rF
 obtain⟨tiN,hiN,hzN0,hzN1,hzN2⟩:=LU sH
 have HII:=KO (KW hiI (KW hzI0 (KW hzI1 hzI2)))
 have HIN:=KO (KW hiN (KW hzN0 (KW hzN1 hzN2)))
 have HS:=KO hs
 have HO:=KO ho
 have HW0:=KO hW0
 have HB0:=KO hb0
 have HC0:=KO b0
 have HR0:=KO br0
 clear hW0 hb0 b0 br0 hs ho hiI hzI0 hzI1 hzI2 hiN hzN0 hzN1 hzN2
 go_enter func51,ntmps51
 go_upto_region 1 with fail
 rw[HW0.out]
 refine aH (by kernel_rfl) (by kernel_rfl) (fun L a W=>∃(t3 t4 t5 t6 t7 t8 t9 t10 t11 t12 t13:Value) (B5:Option Addr) (A8:Option Addr) (c8:Nat) (B9:Option Addr) (A12:Option Addr) (c12:Nat),a=⟨#[(.agg x.row),(.pointer (some ⟨w.heap.size,0,none⟩)),(.pointer (some ⟨w.heap.size+1,0,none⟩)),t3,t4,t5,t6,t7,t8,t9,t10,t11,t12,t13],[]⟩/\Below w.heap.size w W/\(L 11=false->Blk W w.heap.size 33 #[.int .i64 x.lev,.slice x.mA x.mx.length x.mc,.slice x.cA x.ct.length x.cc]/\Blk W (w.heap.size+1) 33 #[.int .i64 0,.slice none 0 0,.slice none 0 0])/\(L 0=true->t3= .pointer (some ⟨w.heap.size,0,none⟩))/\(L 1=true->t4= .int .i64 x.lev)/\(L 2=true->t5= .slice B5 0 0)/\(L 3=true->t6= .pointer (some ⟨w.heap.size,1,none⟩))/\(L 4=true->t7= .slice x.mA x.mx.length x.mc)/\(L 5=true->t8= .slice A8 x.mx.length c8/\Held (fun k=>k< w.heap.size+2) (fun W=>Sl W A8 (x.mx.map iv)) W)/\(L 6=true->t9= .slice B9 0 0)/\(L 7=true->t10= .pointer (some ⟨w.heap.size,2,none⟩))/\(L 8=true->t11= .slice x.cA x.ct.length x.cc)/\(L 9=true->t12= .slice A12 x.ct.length c12/\Held (fun k=>k< w.heap.size+2) (fun W=>Sl W A12 (x.ct.map iv)) W)/\(L 10=true->t13= .agg #[.int .i64 x.lev,.slice A8 x.mx.length c8,.slice A12 x.ct.length c12])/\(L 11=true->Blk W (w.heap.size+1) 33 #[.int .i64 x.lev,.slice A8 x.mx.length c8,.slice A12 x.ct.length c12])/\(L 1=true->L 0=true)/\(L 4=true->L 3=true)/\(L 5=true->L 2=true/\L 4=true)/\(L 8=true->L 7=true)/\(L 9=true->L 6=true/\L 8=true)/\(L 10=true->L 1=true/\L 5=true/\L 9=true)/\(L 11=true->L 10=true)) ?h0 ?hstep ?hend
 case h0=>exact⟨undef,undef,undef,undef,undef,undef,undef,undef,undef,undef,undef,none,none,0,none,none,0,rfl,HB0.out.drew,fun _=>⟨HC0.out,HR0.out⟩,fun h=>absurd h KP,fun h=>absurd h KP,fun h=>absurd h KP,fun h=>absurd h KP,fun h=>absurd h KP,fun h=>absurd h KP,fun h=>absurd h KP,fun h=>absurd h KP,fun h=>absurd h KP,fun h=>absurd h KP,fun h=>absurd h KP,fun h=>absurd h KP,fun h=>absurd h KP,fun h=>absurd h KP,fun h=>absurd h KP,fun h=>absurd h KP,fun h=>absurd h KP,fun h=>absurd h KP,fun h=>absurd h KP⟩
 case hend=>
  rintro L a W hall ⟨t3,t4,t5,t6,t7,t8,t9,t10,t11,t12,t13,B5,A8,c8,B9,A12,c12,rfl,hb,hst,f0,f1,f2,f3,f4,f5,f6,f7,f8,f9,f10,f11,c1,c4,c5,c8,c9,c10,c11⟩
  have z0:=f0 (hall 0 (by decide))
  have z1:=f1 (hall 1 (by decide))
  have z2:=f2 (hall 2 (by decide))
  have z3:=f3 (hall 3 (by decide))
  have z4:=f4 (hall 4 (by decide))
  have z5:=f5 (hall 5 (by decide))
  have z6:=f6 (hall 6 (by decide))
  have z7:=f7 (hall 7 (by decide))
  have z8:=f8 (hall 8 (by decide))
  have z9:=f9 (hall 9 (by decide))
  have z10:=f10 (hall 10 (by decide))
  have z11:=f11 (hall 11 (by decide))
  clear hall hst f0 f1 f2 f3 f4 f5 f6 f7 f8 f9 f10 f11 c1 c4 c5 c8 c9 c10 c11
  have HR3:=KO z11
  have HH4:=KO z5.2
  have HH5:=KO z9.2
  have HB3:=KO hb
  clear z0 z1 z2 z3 z4 z5 z6 z7 z8 z9 z10 z11 hb
  have p0:=HR3.out.cell
  go_wp2_with fail
  refine KV (v:= .agg #[.int .i64 x.lev,.slice A8 x.mx.length c8,.slice A12 x.ct.length c12]) (by simp[results,results51,go_sem,(p0 0),(p0 1),(p0 2)]) rfl ?_
  exact⟨⟨x.lev,x.mx,x.ct,A8,A12,c8,c12⟩,rfl,⟨rfl,rfl,rfl⟩,Held.join (X:=(fun k=>k< w.heap.size+2)) (fun W2 h2=>⟨HH4.out W2 h2,HH5.out W2 h2⟩) (Mod.refl _ _) (fun k _ hx=>Nat.lt_of_lt_of_le hx (Nat.le_add_right _ _)),HB3.out⟩
 case hstep=>
  rintro L a W i o ho hLi hdep ⟨t3,t4,t5,t6,t7,t8,t9,t10,t11,t12,t13,B5,A8,c8,B9,A12,c12,rfl,hb,hst,f0,f1,f2,f3,f4,f5,f6,f7,f8,f9,f10,f11,c1,c4,c5,c8,c9,c10,c11⟩
  have HST:=KO hst
  have F0:=KO f0
  have F1:=KO f1
  have F2:=KO f2
  have F3:=KO f3
  have F4:=KO f4
  have F5:=KO f5
  have F6:=KO f6
  have F7:=KO f7
  have F8:=KO f8
  have F9:=KO f9
  have F10:=KO f10
  have F11:=KO f11
  have C1:=KO c1
  have C4:=KO c4
  have C5:=KO c5
  have C8:=KO c8
  have C9:=KO c9
  have C10:=KO c10
  have C11:=KO c11
  have HB:=KO hb
  clear hb hst f0 f1 f2 f3 f4 f5 f6 f7 f8 f9 f10 f11 c1 c4 c5 c8 c9 c10 c11
  have HLi:=KO hLi
  clear hLi
  match i,ho with
  |0,ho=>
   obtain rfl:=KQ ho
   clear hdep
   have hlast:L 11=false:=by
    cases h:L 11 with
    |false=>rfl
    |true=>exact absurd ((C1.out (C10.out (C11.out h)).1)) (by rw[HLi.out];exact KP)
   obtain⟨hg,hg1⟩:=HST.out hlast
   have HG:=KO hg
   have HG1:=KO hg1
   clear hg hg1
   refine KT rfl (fun K1 hK1=>?_)
   have hK:=KO hK1
   clear hK1
   go_wp2_with fail
   refine hK.out _ _ ?_;exact gX
  |1,ho=>
   obtain rfl:=KQ ho
   have hl0:=hdep ⟨0,.data⟩ (by simp) rfl
   obtain rfl:=F0.out hl0
   clear hdep
   have hlast:L 11=false:=by
    cases h:L 11 with
    |false=>rfl
    |true=>exact absurd ((C10.out (C11.out h)).1) (by rw[HLi.out];exact KP)
   obtain⟨hg,hg1⟩:=HST.out hlast
   have HG:=KO hg
   have HG1:=KO hg1
   clear hg hg1
   refine KT rfl (fun K1 hK1=>?_)
   have hK:=KO hK1
   clear hK1
   have q0:W.cell? ⟨w.heap.size,0,none⟩=some (.int .i64 x.lev):=HG.out.cell 0
   go_wp2_with fail
   refine hK.out _ _ ?_;exact gX
  |2,ho=>
   obtain rfl:=KQ ho
   clear hdep
   have hlast:L 11=false:=by
    cases h:L 11 with
    |false=>rfl
    |true=>exact absurd ((C5.out (C10.out (C11.out h)).2.1).1) (by rw[HLi.out];exact KP)
   obtain⟨hg,hg1⟩:=HST.out hlast
   have HG:=KO hg
   have HG1:=KO hg1
   clear hg hg1
   refine KT rfl (fun K1 hK1=>?_)
   have hK:=KO hK1
   clear hK1
   go_wp2_with fail
   have hb1:Below W.heap.size W (W.alloc (.cells #[] 2)):=(KR _ _).alloc (KS _) _
   obtain⟨W1,hW1⟩:∃W1,W.alloc (.cells #[] 2)=W1:=⟨_,rfl⟩
   rw[hW1]at hb1
   rw[hW1]
   clear hW1
   refine hK.out _ _ ?_;exact gX
  |3,ho=>
   obtain rfl:=KQ ho
   clear hdep
   have hlast:L 11=false:=by
    cases h:L 11 with
    |false=>rfl
    |true=>exact absurd ((C4.out (C5.out (C10.out (C11.out h)).2.1).2)) (by rw[HLi.out];exact KP)
   obtain⟨hg,hg1⟩:=HST.out hlast
   have HG:=KO hg
   have HG1:=KO hg1
   clear hg hg1
   refine KT rfl (fun K1 hK1=>?_)
   have hK:=KO hK1
   clear hK1
   go_wp2_with fail
   refine hK.out _ _ ?_;exact gX
  |4,ho=>
   obtain rfl:=KQ ho
   have hl3:=hdep ⟨3,.data⟩ (by simp) rfl
   obtain rfl:=F3.out hl3
   clear hdep
   have hlast:L 11=false:=by
    cases h:L 11 with
    |false=>rfl
    |true=>exact absurd ((C5.out (C10.out (C11.out h)).2.1).2) (by rw[HLi.out];exact KP)
   obtain⟨hg,hg1⟩:=HST.out hlast
   have HG:=KO hg
   have HG1:=KO hg1
   clear hg hg1
   refine KT rfl (fun K1 hK1=>?_)
   have hK:=KO hK1
   clear hK1
   have q0:W.cell? ⟨w.heap.size,1,none⟩=some (.slice x.mA x.mx.length x.mc):=HG.out.cell 1
   go_wp2_with fail
   refine hK.out _ _ ?_;exact gX
  |5,ho=>
   obtain rfl:=KQ ho
   have hl2:=hdep ⟨2,.data⟩ (by simp) rfl
   obtain rfl:=F2.out hl2
   have hl4:=hdep ⟨4,.data⟩ (by simp) rfl
   obtain rfl:=F4.out hl4
   clear hdep
   have hlast:L 11=false:=by
    cases h:L 11 with
    |false=>rfl
    |true=>exact absurd ((C10.out (C11.out h)).2.1) (by rw[HLi.out];exact KP)
   obtain⟨hg,hg1⟩:=HST.out hlast
   have HG:=KO hg
   have HG1:=KO hg1
   clear hg hg1
   refine KT rfl (fun K1 hK1=>?_)
   have hK:=KO hK1
   clear hK1
   refine dF W rfl (.tmp 5) (.tmp 7) 26 rfl 2 tiI _ 1 8 underlying26 HII.out.1 HII.out.2.1 HII.out.2.2.1 HII.out.2.2.2 rfl (by omega) B5 0 [] (fun _=>rfl) rfl (.inl rfl) rfl x.mA x.mx.length x.mc (x.mx.map iv) rfl (HS.out.maxes.below HB.out) (by simp) (fT iv x.mx (fun _=>rfl)) (by have:=HO.out.ml;unfold maxLen;omega) (by have:=HO.out.ml;omega) ?_
   intro v4 W1 h41 h42 hg4
   obtain⟨A4,c4,rfl,hh4,hb1⟩:=uV (X:=(fun k=>k< w.heap.size+2)) h41 h42 hg4 (fun k hk=>by have:=HG1.out.lt;have:k< w.heap.size+2:=hk;omega)
   clear h41 h42 hg4
   refine hK.out _ _ ?_;exact gX
  |6,ho=>
   obtain rfl:=KQ ho
   clear hdep
   have hlast:L 11=false:=by
    cases h:L 11 with
    |false=>rfl
    |true=>exact absurd ((C9.out (C10.out (C11.out h)).2.2).1) (by rw[HLi.out];exact KP)
   obtain⟨hg,hg1⟩:=HST.out hlast
   have HG:=KO hg
   have HG1:=KO hg1
   clear hg hg1
   refine KT rfl (fun K1 hK1=>?_)
   have hK:=KO hK1
   clear hK1
   go_wp2_with fail
   have hb1:Below W.heap.size W (W.alloc (.cells #[] 3)):=(KR _ _).alloc (KS _) _
   obtain⟨W1,hW1⟩:∃W1,W.alloc (.cells #[] 3)=W1:=⟨_,rfl⟩
   rw[hW1]at hb1
   rw[hW1]
   clear hW1
   refine hK.out _ _ ?_;exact gX
  |7,ho=>
   obtain rfl:=KQ ho
   clear hdep
   have hlast:L 11=false:=by
    cases h:L 11 with
    |false=>rfl
    |true=>exact absurd ((C8.out (C9.out (C10.out (C11.out h)).2.2).2)) (by rw[HLi.out];exact KP)
   obtain⟨hg,hg1⟩:=HST.out hlast
   have HG:=KO hg
   have HG1:=KO hg1
   clear hg hg1
   refine KT rfl (fun K1 hK1=>?_)
   have hK:=KO hK1
   clear hK1
   go_wp2_with fail
   refine hK.out _ _ ?_;exact gX
  |8,ho=>
   obtain rfl:=KQ ho
   have hl7:=hdep ⟨7,.data⟩ (by simp) rfl
   obtain rfl:=F7.out hl7
   clear hdep
   have hlast:L 11=false:=by
    cases h:L 11 with
    |false=>rfl
    |true=>exact absurd ((C9.out (C10.out (C11.out h)).2.2).2) (by rw[HLi.out];exact KP)
   obtain⟨hg,hg1⟩:=HST.out hlast
   have HG:=KO hg
   have HG1:=KO hg1
   clear hg hg1
   refine KT rfl (fun K1 hK1=>?_)
   have hK:=KO hK1
   clear hK1
   have q0:W.cell? ⟨w.heap.size,2,none⟩=some (.slice x.cA x.ct.length x.cc):=HG.out.cell 2
   go_wp2_with fail
   refine hK.out _ _ ?_;exact gX
  |9,ho=>
   obtain rfl:=KQ ho
   have hl6:=hdep ⟨6,.data⟩ (by simp) rfl
   obtain rfl:=F6.out hl6
   have hl8:=hdep ⟨8,.data⟩ (by simp) rfl
   obtain rfl:=F8.out hl8
   clear hdep
   have hlast:L 11=false:=by
    cases h:L 11 with
    |false=>rfl
    |true=>exact absurd ((C10.out (C11.out h)).2.2) (by rw[HLi.out];exact KP)
   obtain⟨hg,hg1⟩:=HST.out hlast
   have HG:=KO hg
   have HG1:=KO hg1
   clear hg hg1
   refine KT rfl (fun K1 hK1=>?_)
   have hK:=KO hK1
   clear hK1
   refine dF W rfl (.tmp 9) (.tmp 11) 27 rfl 3 tiN _ 1 8 underlying27 HIN.out.1 HIN.out.2.1 HIN.out.2.2.1 HIN.out.2.2.2 rfl (by omega) B9 0 [] (fun _=>rfl) rfl (.inl rfl) rfl x.cA x.ct.length x.cc (x.ct.map iv) rfl (HS.out.cnts.below HB.out) (by simp) (fT iv x.ct (fun _=>rfl)) (by have:=HO.out.cl;unfold maxLen;omega) (by have:=HO.out.cl;omega) ?_
   intro v4 W1 h41 h42 hg4
   obtain⟨A4,c4,rfl,hh4,hb1⟩:=uV (X:=(fun k=>k< w.heap.size+2)) h41 h42 hg4 (fun k hk=>by have:=HG1.out.lt;have:k< w.heap.size+2:=hk;omega)
   clear h41 h42 hg4
   refine hK.out _ _ ?_;exact gX
  |10,ho=>
   obtain rfl:=KQ ho
   have hl1:=hdep ⟨1,.data⟩ (by simp) rfl
   obtain rfl:=F1.out hl1
   have hl5:=hdep ⟨5,.data⟩ (by simp) rfl
   have zz5:=KO (F5.out hl5).2
   obtain rfl:=(F5.out hl5).1
   have hl9:=hdep ⟨9,.data⟩ (by simp) rfl
   have zz9:=KO (F9.out hl9).2
   obtain rfl:=(F9.out hl9).1
   clear hdep
   have hlast:L 11=false:=by
    cases h:L 11 with
    |false=>rfl
    |true=>exact absurd ((C11.out h)) (by rw[HLi.out];exact KP)
   obtain⟨hg,hg1⟩:=HST.out hlast
   have HG:=KO hg
   have HG1:=KO hg1
   clear hg hg1
   refine KT rfl (fun K1 hK1=>?_)
   have hK:=KO hK1
   clear hK1
   go_wp2_with fail
   refine hK.out _ _ ?_;exact gX
  |11,ho=>
   obtain rfl:=KQ ho
   have hl10:=hdep ⟨10,.data⟩ (by simp) rfl
   obtain rfl:=F10.out hl10
   clear hdep
   have hlast:=HLi.out
   obtain⟨hg,hg1⟩:=HST.out hlast
   have HG:=KO hg
   have HG1:=KO hg1
   clear hg hg1
   refine KT rfl (fun K1 hK1=>?_)
   have hK:=KO hK1
   clear hK1
   refine aF rfl 33 (.tmp 2) (.tmp 13) rfl (w.heap.size+1) 0 #[.int .i64 x.lev,.slice A8 x.mx.length c8,.slice A12 x.ct.length c12] rfl rfl (aY HG1.out 0 3 (by simp)) wI (Ld (by simp[K5])) ?_
   refine hK.out _ _ ?_;exact gX
end Go.Proofs.YtpbmbjjfdpkhbaaGreat
