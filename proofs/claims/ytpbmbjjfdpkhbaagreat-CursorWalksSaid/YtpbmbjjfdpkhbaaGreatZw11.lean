/- part of the proof -/
import Derived.Deep.CutRange
import Derived.Test.YtpbmbjjfdpkhbaaGreatZw5
import Derived.Deep.MidRow
import Derived.Test.YtpbmbjjfdpkhbaaGreatZw10
import Derived.Test.YtpbmbjjfdpkhbaaGreatZw8
import Derived.Test.YtpbmbjjfdpkhbaaGreatZw6
import Derived.Test.YtpbmbjjfdpkhbaaGreatZw4
import Derived.Test.YtpbmbjjfdpkhbaaGreatZw2
import Derived.ArgAppend
import Derived.Lib.SliceRun
namespace Go.Proofs.YtpbmbjjfdpkhbaaGreat
open Go Go.RowKit
set_option linter.all false
set_option maxRecDepth 100000
set_option maxHeartbeats 32000000
open Go.Proofs.Tryz
open And renaming intro->KW
open Below renaming refl->KR
open Bool renaming false_ne_true->KP
open Go renaming bodyPost_ret->KV,info_parts->LU,wpOp_step->KT
open Go.IntWalk renaming i64_in->KU
open Go.Lib renaming hid->KO
open Go.Region renaming wanted->L8
open Go.Value renaming oneCell'->K5,ownBlock->M9
open Go.World renaming ownsRow_made->MS,size_alloc->KX
open Int renaming tdiv_eq_ediv_of_nonneg->M4
open List renaming all_eq_true->MC,append_assoc->Nc,flatMap_append->L9,flatMap_cons->Nk,getD_eq_getElem?_getD->Lf,getElem?_append_right->Ma,getElem?_eq_getElem->K7,map_append->MR,mem_cons_of_mem->K4,mem_cons_self->LY,nil_append->LA,range->Lt,take_of_length_le->KZ
open Nat renaming add_mul->ML,le_refl->KS,le_succ->Mm,le_trans->KY,mul_assoc->Mc,mul_le_mul_left->ME,mul_le_mul_right->LH,one_mul->Mo,pow_add->Mt,pow_le_pow_right->Lj,strongRecOn->Ng,two_pow_pos->MJ,zero_add->Mx,zero_le->K8
open Option.some renaming inj->KQ
theorem Au (s:Ss) (w:World) (hs:SsAt w s) (ho:SsOk s):Calls prog 50 #[.agg s.row] w (CF s w):=by
 have HS:=KO hs
 have HO:=KO ho
 clear hs ho
 obtain⟨tiU,hiU,hzU0,hzU1,hzU2⟩:=LU EZ
 obtain⟨tiI,hiI,hzI0,hzI1,hzI2⟩:=LU rF
 obtain⟨tiN,hiN,hzN0,hzN1,hzN2⟩:=LU sH
 obtain⟨W0,hW0⟩:∃W0,(w.alloc (.cells s.row 29)).alloc (.cells #[.int .i64 0,.slice none 0 0,.slice none 0 0,.slice none 0 0,.slice none 0 0,.int .u64 0] 29)=W0:=⟨_,rfl⟩
 have hb0:Below w.heap.size w W0:=by rw[<-hW0];exact((KR _ _).alloc (KS _) _).alloc (by simp) _
 have b0:Blk W0 w.heap.size 29 #[.int .i64 s.seg,.slice s.wA s.ws.length s.wc,.slice s.kA s.ks.length s.kc,.slice s.vA s.vs.length s.vc,.slice s.cA s.cs.length s.cc,.int .u64 s.laid]:=by rw[<-hW0];exact(Blk.new _ _ _).alloc _
 have br0:Blk W0 (w.heap.size+1) 29 #[.int .i64 0,.slice none 0 0,.slice none 0 0,.slice none 0 0,.slice none 0 0,.int .u64 0]:=by
  rw[<-hW0]
  have:=Blk.new (w.alloc (.cells s.row 29)) 29 #[.int .i64 0,.slice none 0 0,.slice none 0 0,.slice none 0 0,.slice none 0 0,.int .u64 0]
  rwa [KX]at this
 have HW0:=KO hW0
 have HF0:=KO hb0
 have HC0:=KO b0
 have HR0:=KO br0
 clear hW0 hb0 b0 br0
 go_enter func50,ntmps50
 go_upto_region 1 with fail
 rw[HW0.out]
 have q0:W0.cell? ⟨w.heap.size,1,none⟩=some (.slice s.wA s.ws.length s.wc):=HC0.out.cell 1
 have l0:=HC0.out.lt
 have hlen0:s.ws.length<=300:=HO.out.wl
 go_upto_region 2 with(at_builtin;refine ag _ rfl (.tmp 3) (.tmp 5) _ rfl W0.heap.size 22 tiU _ 1 8 underlying25 hiU hzU0 hzU1 hzU2 rfl (by omega) (.slice (some ⟨W0.heap.size,0,none⟩) 0 0) 0 [] rfl (MS W0 #[] 0 (KS _) (K8 _) rfl) s.wA s.ws.length s.wc (s.ws.map uw) rfl ((HS.out.words.below HF0.out).below ((KR _ _).alloc (KS _) _)) (by simp) (by rw[nk];exact fT uv _ (fun _=>rfl)) (by unfold maxLen;omega) (by omega) (by simp) ?_;intro v0 w0 hown0 hg0;simp only[Mx,LA]at hown0;obtain⟨A0,c0,rfl,-,-⟩:=ak hown0;have hx0:Below W0.heap.size W0 w0:=((KR _ _).alloc (KS _) _).grown hg0 (by simp) (fun k hk=>((MS W0 #[] 0 (KS _) (K8 _) rfl:(W0.alloc (.cells #[] 22)).ownsRow W0.heap.size 22 1 (.slice (some ⟨W0.heap.size,0,none⟩) 0 0) 0 []).lt k hk).1);have hB0:=HC0.out.below hx0 HC0.out.lt;have kq:w0.cell? ⟨w.heap.size,1,none⟩=some (.slice s.wA s.ws.length s.wc):=hB0.cell 1;have kf:=hB0.frozen 1;have kl:=hB0.lt)
 obtain⟨W1,hW⟩:∃W,w0.setCell ⟨w.heap.size,1,none⟩ (.slice A0 s.ws.length c0)=W:=⟨_,rfl⟩
 rw[hW]
 have HC1:=KO (show Blk W1 w.heap.size 29 #[.int .i64 s.seg,.slice A0 s.ws.length c0,.slice s.kA s.ks.length s.kc,.slice s.vA s.vs.length s.vc,.slice s.cA s.cs.length s.cc,.int .u64 s.laid]from by rw[<-hW];simpa using hB0.set_ 1 (.slice A0 s.ws.length c0))
 have HR1:=KO (show Blk W1 (w.heap.size+1) 29 #[.int .i64 0,.slice none 0 0,.slice none 0 0,.slice none 0 0,.slice none 0 0,.int .u64 0]from by rw[<-hW];exact(HR0.out.below hx0 HR0.out.lt).far (p:=⟨w.heap.size,1,none⟩) (by simp) _)
 have HF1:=KO (show Below w.heap.size w W1 from by rw[<-hW];exact(aa HF0.out hx0).setCell (p:=⟨w.heap.size,1,none⟩) (KS _) _)
 have hm0:Mod (fun k=>k< w.heap.size+2) w0 W1:=by rw[<-hW];exact dw (by show w.heap.size< w.heap.size+2;omega)
 have HE0:=KO ((aT (eY (X:=(fun k=>k< w.heap.size+2)) hown0 (fun k hk hx=>by have:=HC0.out.lt;have:=HR0.out.lt;omega)) (fun W2 h2=>aA h2)).step hm0)
 clear q0 l0 hlen0 kq kf kl hW hm0 hown0 hg0 hB0 hx0 HC0 HR0 HF0
 have q0:W1.cell? ⟨w.heap.size,2,none⟩=some (.slice s.kA s.ks.length s.kc):=HC1.out.cell 2
 have l0:=HC1.out.lt
 have hlen1:s.ks.length<=300:=HO.out.kl
 go_upto_region 3 with(at_builtin;refine ag _ rfl (.tmp 8) (.tmp 10) _ rfl W1.heap.size 2 tiI _ 1 8 underlying26 hiI hzI0 hzI1 hzI2 rfl (by omega) (.slice (some ⟨W1.heap.size,0,none⟩) 0 0) 0 [] rfl (MS W1 #[] 0 (KS _) (K8 _) rfl) s.kA s.ks.length s.kc (s.ks.map iv) rfl ((HS.out.keys.below HF1.out).below ((KR _ _).alloc (KS _) _)) (by simp) (fT iv s.ks (fun _=>rfl)) (by unfold maxLen;omega) (by omega) (by simp) ?_;intro v1 w1 hown1 hg1;simp only[Mx,LA]at hown1;obtain⟨A1,c1,rfl,-,-⟩:=ak hown1;have hx1:Below W1.heap.size W1 w1:=((KR _ _).alloc (KS _) _).grown hg1 (by simp) (fun k hk=>((MS W1 #[] 0 (KS _) (K8 _) rfl:(W1.alloc (.cells #[] 2)).ownsRow W1.heap.size 2 1 (.slice (some ⟨W1.heap.size,0,none⟩) 0 0) 0 []).lt k hk).1);have hB1:=HC1.out.below hx1 HC1.out.lt;have kq:w1.cell? ⟨w.heap.size,2,none⟩=some (.slice s.kA s.ks.length s.kc):=hB1.cell 2;have kf:=hB1.frozen 2;have kl:=hB1.lt)
 obtain⟨W2,hW⟩:∃W,w1.setCell ⟨w.heap.size,2,none⟩ (.slice A1 s.ks.length c1)=W:=⟨_,rfl⟩
 rw[hW]
 have HC2:=KO (show Blk W2 w.heap.size 29 #[.int .i64 s.seg,.slice A0 s.ws.length c0,.slice A1 s.ks.length c1,.slice s.vA s.vs.length s.vc,.slice s.cA s.cs.length s.cc,.int .u64 s.laid]from by rw[<-hW];simpa using hB1.set_ 2 (.slice A1 s.ks.length c1))
 have HR2:=KO (show Blk W2 (w.heap.size+1) 29 #[.int .i64 0,.slice none 0 0,.slice none 0 0,.slice none 0 0,.slice none 0 0,.int .u64 0]from by rw[<-hW];exact(HR1.out.below hx1 HR1.out.lt).far (p:=⟨w.heap.size,2,none⟩) (by simp) _)
 have HF2:=KO (show Below w.heap.size w W2 from by rw[<-hW];exact(aa HF1.out hx1).setCell (p:=⟨w.heap.size,2,none⟩) (KS _) _)
 have hm1:Mod (fun k=>k< w.heap.size+2) w1 W2:=by rw[<-hW];exact dw (by show w.heap.size< w.heap.size+2;omega)
 have HE1:=KO ((aT (eY (X:=(fun k=>k< w.heap.size+2)) hown1 (fun k hk hx=>by have:=HC1.out.lt;have:=HR1.out.lt;omega)) (fun W2 h2=>aA h2)).step hm1)
 have HE0':=KO ((HE0.out.ext hx1).step hm1)
 clear HE0
 have HE0:=HE0'
 clear HE0'
 clear q0 l0 hlen1 kq kf kl hW hm1 hown1 hg1 hB1 hx1 HC1 HR1 HF1
 have q0:W2.cell? ⟨w.heap.size,3,none⟩=some (.slice s.vA s.vs.length s.vc):=HC2.out.cell 3
 have l0:=HC2.out.lt
 have hlen2:s.vs.length<=300:=HO.out.vl
 go_upto_region 4 with(at_builtin;refine ag _ rfl (.tmp 13) (.tmp 15) _ rfl W2.heap.size 2 tiI _ 1 8 underlying26 hiI hzI0 hzI1 hzI2 rfl (by omega) (.slice (some ⟨W2.heap.size,0,none⟩) 0 0) 0 [] rfl (MS W2 #[] 0 (KS _) (K8 _) rfl) s.vA s.vs.length s.vc (s.vs.map iv) rfl ((HS.out.vals.below HF2.out).below ((KR _ _).alloc (KS _) _)) (by simp) (fT iv s.vs (fun _=>rfl)) (by unfold maxLen;omega) (by omega) (by simp) ?_;intro v2 w2 hown2 hg2;simp only[Mx,LA]at hown2;obtain⟨A2,c2,rfl,-,-⟩:=ak hown2;have hx2:Below W2.heap.size W2 w2:=((KR _ _).alloc (KS _) _).grown hg2 (by simp) (fun k hk=>((MS W2 #[] 0 (KS _) (K8 _) rfl:(W2.alloc (.cells #[] 2)).ownsRow W2.heap.size 2 1 (.slice (some ⟨W2.heap.size,0,none⟩) 0 0) 0 []).lt k hk).1);have hB2:=HC2.out.below hx2 HC2.out.lt;have kq:w2.cell? ⟨w.heap.size,3,none⟩=some (.slice s.vA s.vs.length s.vc):=hB2.cell 3;have kf:=hB2.frozen 3;have kl:=hB2.lt)
 obtain⟨W3,hW⟩:∃W,w2.setCell ⟨w.heap.size,3,none⟩ (.slice A2 s.vs.length c2)=W:=⟨_,rfl⟩
 rw[hW]
 have HC3:=KO (show Blk W3 w.heap.size 29 #[.int .i64 s.seg,.slice A0 s.ws.length c0,.slice A1 s.ks.length c1,.slice A2 s.vs.length c2,.slice s.cA s.cs.length s.cc,.int .u64 s.laid]from by rw[<-hW];simpa using hB2.set_ 3 (.slice A2 s.vs.length c2))
 have HR3:=KO (show Blk W3 (w.heap.size+1) 29 #[.int .i64 0,.slice none 0 0,.slice none 0 0,.slice none 0 0,.slice none 0 0,.int .u64 0]from by rw[<-hW];exact(HR2.out.below hx2 HR2.out.lt).far (p:=⟨w.heap.size,3,none⟩) (by simp) _)
 have HF3:=KO (show Below w.heap.size w W3 from by rw[<-hW];exact(aa HF2.out hx2).setCell (p:=⟨w.heap.size,3,none⟩) (KS _) _)
 have hm2:Mod (fun k=>k< w.heap.size+2) w2 W3:=by rw[<-hW];exact dw (by show w.heap.size< w.heap.size+2;omega)
 have HE2:=KO ((aT (eY (X:=(fun k=>k< w.heap.size+2)) hown2 (fun k hk hx=>by have:=HC2.out.lt;have:=HR2.out.lt;omega)) (fun W2 h2=>aA h2)).step hm2)
 have HE0':=KO ((HE0.out.ext hx2).step hm2)
 clear HE0
 have HE0:=HE0'
 clear HE0'
 have HE1':=KO ((HE1.out.ext hx2).step hm2)
 clear HE1
 have HE1:=HE1'
 clear HE1'
 clear q0 l0 hlen2 kq kf kl hW hm2 hown2 hg2 hB2 hx2 HC2 HR2 HF2
 have q0:W3.cell? ⟨w.heap.size,4,none⟩=some (.slice s.cA s.cs.length s.cc):=HC3.out.cell 4
 have l0:=HC3.out.lt
 have hlen3:s.cs.length<=300:=HO.out.cl
 go_upto_region 5 with(at_builtin;refine ag _ rfl (.tmp 18) (.tmp 20) _ rfl W3.heap.size 3 tiN _ 1 8 underlying27 hiN hzN0 hzN1 hzN2 rfl (by omega) (.slice (some ⟨W3.heap.size,0,none⟩) 0 0) 0 [] rfl (MS W3 #[] 0 (KS _) (K8 _) rfl) s.cA s.cs.length s.cc (s.cs.map iv) rfl ((HS.out.cnts.below HF3.out).below ((KR _ _).alloc (KS _) _)) (by simp) (fT iv s.cs (fun _=>rfl)) (by unfold maxLen;omega) (by omega) (by simp) ?_;intro v3 w3 hown3 hg3;simp only[Mx,LA]at hown3;obtain⟨A3,c3,rfl,-,-⟩:=ak hown3;have hx3:Below W3.heap.size W3 w3:=((KR _ _).alloc (KS _) _).grown hg3 (by simp) (fun k hk=>((MS W3 #[] 0 (KS _) (K8 _) rfl:(W3.alloc (.cells #[] 3)).ownsRow W3.heap.size 3 1 (.slice (some ⟨W3.heap.size,0,none⟩) 0 0) 0 []).lt k hk).1);have hB3:=HC3.out.below hx3 HC3.out.lt;have kq:w3.cell? ⟨w.heap.size,4,none⟩=some (.slice s.cA s.cs.length s.cc):=hB3.cell 4;have kf:=hB3.frozen 4;have kl:=hB3.lt)
 obtain⟨W4,hW⟩:∃W,w3.setCell ⟨w.heap.size,4,none⟩ (.slice A3 s.cs.length c3)=W:=⟨_,rfl⟩
 rw[hW]
 have HC4:=KO (show Blk W4 w.heap.size 29 #[.int .i64 s.seg,.slice A0 s.ws.length c0,.slice A1 s.ks.length c1,.slice A2 s.vs.length c2,.slice A3 s.cs.length c3,.int .u64 s.laid]from by rw[<-hW];simpa using hB3.set_ 4 (.slice A3 s.cs.length c3))
 have HR4:=KO (show Blk W4 (w.heap.size+1) 29 #[.int .i64 0,.slice none 0 0,.slice none 0 0,.slice none 0 0,.slice none 0 0,.int .u64 0]from by rw[<-hW];exact(HR3.out.below hx3 HR3.out.lt).far (p:=⟨w.heap.size,4,none⟩) (by simp) _)
 have HF4:=KO (show Below w.heap.size w W4 from by rw[<-hW];exact(aa HF3.out hx3).setCell (p:=⟨w.heap.size,4,none⟩) (KS _) _)
 have hm3:Mod (fun k=>k< w.heap.size+2) w3 W4:=by rw[<-hW];exact dw (by show w.heap.size< w.heap.size+2;omega)
 have HE3:=KO ((aT (eY (X:=(fun k=>k< w.heap.size+2)) hown3 (fun k hk hx=>by have:=HC3.out.lt;have:=HR3.out.lt;omega)) (fun W2 h2=>aA h2)).step hm3)
 have HE0':=KO ((HE0.out.ext hx3).step hm3)
 clear HE0
 have HE0:=HE0'
 clear HE0'
 have HE1':=KO ((HE1.out.ext hx3).step hm3)
 clear HE1
 have HE1:=HE1'
 clear HE1'
 have HE2':=KO ((HE2.out.ext hx3).step hm3)
 clear HE2
 have HE2:=HE2'
 clear HE2'
 have HCAP:=KO (wz hown3)
 clear q0 l0 hlen3 kq kf kl hW hm3 hown3 hg3 hB3 hx3 HC3 HR3 HF3
 have q0:W4.cell? ⟨w.heap.size,0,none⟩=some (.int .i64 s.seg):=HC4.out.cell 0
 have q1:W4.cell? ⟨w.heap.size,1,none⟩=some (.slice A0 s.ws.length c0):=HC4.out.cell 1
 have q2:W4.cell? ⟨w.heap.size,2,none⟩=some (.slice A1 s.ks.length c1):=HC4.out.cell 2
 have q3:W4.cell? ⟨w.heap.size,3,none⟩=some (.slice A2 s.vs.length c2):=HC4.out.cell 3
 have q4:W4.cell? ⟨w.heap.size,4,none⟩=some (.slice A3 s.cs.length c3):=HC4.out.cell 4
 have q5:W4.cell? ⟨w.heap.size,5,none⟩=some (.int .u64 s.laid):=HC4.out.cell 5
 have p0:W4.cell? ⟨w.heap.size+1,0,none⟩=some (.int .i64 0):=HR4.out.cell 0
 have r0:=HR4.out.frozen 0
 have p1:W4.cell? ⟨w.heap.size+1,1,none⟩=some (.slice none 0 0):=HR4.out.cell 1
 have r1:=HR4.out.frozen 1
 have p2:W4.cell? ⟨w.heap.size+1,2,none⟩=some (.slice none 0 0):=HR4.out.cell 2
 have r2:=HR4.out.frozen 2
 have p3:W4.cell? ⟨w.heap.size+1,3,none⟩=some (.slice none 0 0):=HR4.out.cell 3
 have r3:=HR4.out.frozen 3
 have p4:W4.cell? ⟨w.heap.size+1,4,none⟩=some (.slice none 0 0):=HR4.out.cell 4
 have r4:=HR4.out.frozen 4
 have p5:W4.cell? ⟨w.heap.size+1,5,none⟩=some (.int .u64 0):=HR4.out.cell 5
 have r5:=HR4.out.frozen 5
 have lg:=HR4.out.lt
 have lg0:=HC4.out.lt
 go_wp2_with fail
 refine KV (v:= .agg #[.int .i64 s.seg,.slice A0 s.ws.length c0,.slice A1 s.ks.length c1,.slice A2 s.vs.length c2,.slice A3 s.cs.length c3,.int .u64 s.laid]) (by simp[results,results50,go_sem,p0,p1,p2,p3,p4,p5,q0,q1,q2,q3,q4,q5]) rfl ?_
 refine⟨⟨s.seg,s.ws,s.ks,s.vs,s.cs,s.laid,A0,A1,A2,A3,c0,c1,c2,c3⟩,rfl,⟨rfl,rfl,rfl,rfl,rfl,rfl,HCAP.out⟩,?_,Kc HF4.out (Mm _) _ _ _ _ _ _⟩
 exact Held.join (X:=(fun k=>k< w.heap.size+2)) (fun W2 h2=>⟨HE0.out W2 h2,HE1.out W2 h2,HE2.out W2 h2,HE3.out W2 h2⟩) (Km (g:=w.heap.size+1) (S:=(fun k=>k< w.heap.size+2)) (by show w.heap.size+1< w.heap.size+2;omega) _ _ _ _ _ _) (fun k hk hx=>by show k< w.heap.size+2;have:k< w.heap.size:=hx;omega)
theorem eQ {P:Program} {w:World} {ops:Array Oper} {o:Oper} {a:Act} {K:Act->World->Prop} {Q:Exit->Act->World->Prop} {E:Prop} (hgd:o.guard=none) (ty:TypeId) (x:Operand) (ho:o.op= .load ty x)
  (b f:Nat) (hx:a.eval x= .pointer (some ⟨b,f,none⟩)) (cs:List Value) (d:TypeDesc) (hc:w.rangeAt b f cs)
  (hu:P.underlying ty=some d) (hd:d.isRow=true) (hi:(P.info? ty).map (·.size)=some cs.length)
  (h:K (a.put o.dst (.agg cs.toArray)) w):if L8 o (yielded ops a.tmps)=true then Oper.wp P o a w K Q else E:=by
 have hw:L8 o (yielded ops a.tmps)=true:=by simp[L8,hgd]
 rw[if_pos hw]
 exact wp_load_mid ty x ho b f hx cs d hc hu hd hi h
theorem aF {P:Program} {w:World} {ops:Array Oper} {o:Oper} {a:Act} {K:Act->World->Prop} {Q:Exit->Act->World->Prop} {E:Prop} (hgd:o.guard=none) (ty:TypeId) (x y:Operand) (ho:o.op= .store ty x y)
  (b f:Nat) (cells:Array Value) (hx:a.eval x= .pointer (some ⟨b,f,none⟩)) (hy:a.eval y= .agg cells)
  (ht:w.there b f cells.size) (hi:(P.info? ty).map (·.size)=some cells.size) (h1:cells.all (·.oneCell')=true)
  (h:K (a.put o.dst undef) (w.setCells b f cells.toList)):if L8 o (yielded ops a.tmps)=true then Oper.wp P o a w K Q else E:=by
 have hw:L8 o (yielded ops a.tmps)=true:=by simp[L8,hgd]
 rw[if_pos hw]
 exact wp_store_mid ty x y ho b f cells hx hy ht hi h1 h
theorem bB:(prog.info? 24).map (·.size)=some 9:=by kernel_rfl
theorem mI {P:Prop} (h:P:=by
  iterate 7 apply Exists.intro
  refine⟨rfl,?_,?_,?_,?_,?_,?_,?_,?_,?_,?_,?_,?_,?_,?_⟩
  ·first|exact aS (Mm _) _ 0 _ HB.out|exact HB.out|exact aa HB.out hb1
  ·first|(intro h;refine absurd h ?_;simp;done;done)|exact fun h=>⟨HG.out,HG1.out⟩|exact fun h=>⟨HG.out.below hb1 HG.out.lt,HG1.out.below hb1 HG1.out.lt⟩
  ·first|exact F0.out|exact fun _=>rfl
  ·first|exact F1.out|exact fun _=>rfl
  ·first|exact F2.out|exact fun _=>rfl
  ·first|exact F3.out|exact fun _=>rfl
  ·first|exact(fun h=>⟨(F4.out (by simpa using h)).1,(F4.out (by simpa using h)).2.step (aL (by show w.heap.size+1< w.heap.size+2;omega) _ 0 _)⟩)|exact F4.out|exact fun h=>⟨rfl,zz4.out⟩|exact(fun _=>⟨rfl,Held.join (aT hh2 (fun W2 h2=>KW hl2 h2)) (Mod.refl _ _) (fun k _ hx=>Nat.lt_of_lt_of_le hx (by have:=HG1.out.lt;omega))⟩)
  ·first|exact F5.out|exact fun _=>rfl|exact(fun h=>absurd (show L 5=true by simpa using h) (by intro h;exact absurd ((C5.out h).2) (by rw[HLi.out];exact KP)))
  ·first|exact(fun h=>absurd (show L 6=true by simpa using h) (by rw[hlast];exact KP))|(intro _;simpa[dn]using Blk.setCells (#[.int .u8 c.tag,.int .i64 c.most,.int .i64 c.seg,.int .i64 c.least,.int .i64 c.den,.int .i64 c.leafLow,.int .i64 c.rootLow,.int .i64 c.rootHigh,.int .i64 c.leafHigh,.int .i64 s2.seg,.slice s2.wA s2.ws.length s2.wc,.slice s2.kA s2.ks.length s2.kc,.slice s2.vA s2.vs.length s2.vc,.slice s2.cA s2.cs.length s2.cc,.int .u64 s2.laid]:Array Value).toList 0 _ _ HG1.out;done)
  ·first|(intro h;have hh:=C1.out (by simpa using h);simp[hh];done)|(intro _;simp[hl0];done)
  ·first|(intro h;have hh:=C3.out (by simpa using h);simp[hh];done)|(intro _;simp[hl2];done)
  ·first|(intro h;have hh:=C4.out (by simpa using h);simp[hh];done)|(intro _;simp[hl3];done)
  ·first|(intro h;have hh:=C5.out (by simpa using h);simp[hh];done)|(intro _;simp[hl1,hl4];done)
  ·first|(intro h;have hh:=C6.out (by simpa using h);simp[hh];done)|(intro _;simp[hl5];done)):P:=h
theorem rW (c:Cfg) (s:Ss) (w:World) (hs:SsAt w s) (ho:SsOk s):Calls prog 26 #[.agg (cB c s)] w (CO c s w):=by
 obtain⟨W0,hW0⟩:∃W0,(w.alloc (.cells (cB c s) 31)).alloc (.cells #[.int .u8 0,.int .i64 0,.int .i64 0,.int .i64 0,.int .i64 0,.int .i64 0,.int .i64 0,.int .i64 0,.int .i64 0,.int .i64 0,.slice none 0 0,.slice none 0 0,.slice none 0 0,.slice none 0 0,.int .u64 0] 31)=W0:=⟨_,rfl⟩
 have hb0:Below w.heap.size w W0:=by rw[<-hW0];exact((KR _ _).alloc (KS _) _).alloc (by simp) _
 have b0:Blk W0 w.heap.size 31 #[.int .u8 c.tag,.int .i64 c.most,.int .i64 c.seg,.int .i64 c.least,.int .i64 c.den,.int .i64 c.leafLow,.int .i64 c.rootLow,.int .i64 c.rootHigh,.int .i64 c.leafHigh,.int .i64 s.seg,.slice s.wA s.ws.length s.wc,.slice s.kA s.ks.length s.kc,.slice s.vA s.vs.length s.vc,.slice s.cA s.cs.length s.cc,.int .u64 s.laid]:=by rw[<-hW0];exact(Blk.new _ _ _).alloc _
 have br0:Blk W0 (w.heap.size+1) 31 #[.int .u8 0,.int .i64 0,.int .i64 0,.int .i64 0,.int .i64 0,.int .i64 0,.int .i64 0,.int .i64 0,.int .i64 0,.int .i64 0,.slice none 0 0,.slice none 0 0,.slice none 0 0,.slice none 0 0,.int .u64 0]:=by
  rw[<-hW0]
  have:=Blk.new (w.alloc (.cells (cB c s) 31)) 31 #[.int .u8 0,.int .i64 0,.int .i64 0,.int .i64 0,.int .i64 0,.int .i64 0,.int .i64 0,.int .i64 0,.int .i64 0,.int .i64 0,.slice none 0 0,.slice none 0 0,.slice none 0 0,.slice none 0 0,.int .u64 0]
  rwa [KX]at this
 have HTW:=KO (fun W (h:Below w.heap.size w W)=>Au s W (hs.below h) ho)
 have HW0:=KO hW0
 have HB0:=KO hb0
 have HC0:=KO b0
 have HR0:=KO br0
 clear hW0 hb0 b0 br0 hs ho
 go_enter func26,ntmps26
 go_upto_region 1 with fail
 rw[HW0.out]
 refine aH (by kernel_rfl) (by kernel_rfl) (fun L a W=>∃(t3 t4 t5 t6 t7 t8:Value) (s2:Ss),a=⟨#[(.agg (cB c s)),(.pointer (some ⟨w.heap.size,0,none⟩)),(.pointer (some ⟨w.heap.size+1,0,none⟩)),t3,t4,t5,t6,t7,t8],[]⟩/\Below w.heap.size w W/\(L 6=false->Blk W w.heap.size 31 #[.int .u8 c.tag,.int .i64 c.most,.int .i64 c.seg,.int .i64 c.least,.int .i64 c.den,.int .i64 c.leafLow,.int .i64 c.rootLow,.int .i64 c.rootHigh,.int .i64 c.leafHigh,.int .i64 s.seg,.slice s.wA s.ws.length s.wc,.slice s.kA s.ks.length s.kc,.slice s.vA s.vs.length s.vc,.slice s.cA s.cs.length s.cc,.int .u64 s.laid]/\Blk W (w.heap.size+1) 31 #[.int .u8 0,.int .i64 0,.int .i64 0,.int .i64 0,.int .i64 0,.int .i64 0,.int .i64 0,.int .i64 0,.int .i64 0,.int .i64 0,.slice none 0 0,.slice none 0 0,.slice none 0 0,.slice none 0 0,.int .u64 0])/\(L 0=true->t3= .pointer (some ⟨w.heap.size,0,none⟩))/\(L 1=true->t4= .agg #[.int .u8 c.tag,.int .i64 c.most,.int .i64 c.seg,.int .i64 c.least,.int .i64 c.den,.int .i64 c.leafLow,.int .i64 c.rootLow,.int .i64 c.rootHigh,.int .i64 c.leafHigh])/\(L 2=true->t5= .pointer (some ⟨w.heap.size,9,none⟩))/\(L 3=true->t6= .agg #[.int .i64 s.seg,.slice s.wA s.ws.length s.wc,.slice s.kA s.ks.length s.kc,.slice s.vA s.vs.length s.vc,.slice s.cA s.cs.length s.cc,.int .u64 s.laid])/\(L 4=true->t7= .agg #[.int .i64 s2.seg,.slice s2.wA s2.ws.length s2.wc,.slice s2.kA s2.ks.length s2.kc,.slice s2.vA s2.vs.length s2.vc,.slice s2.cA s2.cs.length s2.cc,.int .u64 s2.laid]/\Held (fun k=>k< w.heap.size+2) (fun W=>SsLike s s2/\SsAt W s2) W)/\(L 5=true->t8= .agg #[.int .u8 c.tag,.int .i64 c.most,.int .i64 c.seg,.int .i64 c.least,.int .i64 c.den,.int .i64 c.leafLow,.int .i64 c.rootLow,.int .i64 c.rootHigh,.int .i64 c.leafHigh,.int .i64 s2.seg,.slice s2.wA s2.ws.length s2.wc,.slice s2.kA s2.ks.length s2.kc,.slice s2.vA s2.vs.length s2.vc,.slice s2.cA s2.cs.length s2.cc,.int .u64 s2.laid])/\(L 6=true->Blk W (w.heap.size+1) 31 #[.int .u8 c.tag,.int .i64 c.most,.int .i64 c.seg,.int .i64 c.least,.int .i64 c.den,.int .i64 c.leafLow,.int .i64 c.rootLow,.int .i64 c.rootHigh,.int .i64 c.leafHigh,.int .i64 s2.seg,.slice s2.wA s2.ws.length s2.wc,.slice s2.kA s2.ks.length s2.kc,.slice s2.vA s2.vs.length s2.vc,.slice s2.cA s2.cs.length s2.cc,.int .u64 s2.laid])/\(L 1=true->L 0=true)/\(L 3=true->L 2=true)/\(L 4=true->L 3=true)/\(L 5=true->L 1=true/\L 4=true)/\(L 6=true->L 5=true)) ?h0 ?hstep ?hend
 case h0=>exact⟨undef,undef,undef,undef,undef,undef,s,rfl,HB0.out.drew,fun _=>⟨HC0.out,HR0.out⟩,fun h=>absurd h KP,fun h=>absurd h KP,fun h=>absurd h KP,fun h=>absurd h KP,fun h=>absurd h KP,fun h=>absurd h KP,fun h=>absurd h KP,fun h=>absurd h KP,fun h=>absurd h KP,fun h=>absurd h KP,fun h=>absurd h KP,fun h=>absurd h KP⟩
 case hend=>
  rintro L a W hall ⟨t3,t4,t5,t6,t7,t8,s2,rfl,hb,hst,f0,f1,f2,f3,f4,f5,f6,c1,c3,c4,c5,c6⟩
  have z0:=f0 (hall 0 (by decide))
  have z1:=f1 (hall 1 (by decide))
  have z2:=f2 (hall 2 (by decide))
  have z3:=f3 (hall 3 (by decide))
  have z4:=f4 (hall 4 (by decide))
  have z5:=f5 (hall 5 (by decide))
  have z6:=f6 (hall 6 (by decide))
  clear hall hst f0 f1 f2 f3 f4 f5 f6 c1 c3 c4 c5 c6
  have HR3:=KO z6
  have HH4:=KO z4.2
  have HB3:=KO hb
  clear z0 z1 z2 z3 z4 z5 z6 hb
  have p0:=HR3.out.cell
  go_wp2_with fail
  refine KV (v:= .agg #[.int .u8 c.tag,.int .i64 c.most,.int .i64 c.seg,.int .i64 c.least,.int .i64 c.den,.int .i64 c.leafLow,.int .i64 c.rootLow,.int .i64 c.rootHigh,.int .i64 c.leafHigh,.int .i64 s2.seg,.slice s2.wA s2.ws.length s2.wc,.slice s2.kA s2.ks.length s2.kc,.slice s2.vA s2.vs.length s2.vc,.slice s2.cA s2.cs.length s2.cc,.int .u64 s2.laid]) (by simp[results,results26,go_sem,(p0 0),(p0 1),(p0 2),(p0 3),(p0 4),(p0 5),(p0 6),(p0 7),(p0 8),(p0 9),(p0 10),(p0 11),(p0 12),(p0 13),(p0 14)]) rfl ?_
  exact⟨s2,rfl,HH4.out.now.1,Held.join (aT HH4.out (fun _ h=>h.2)) (Mod.refl _ _) (fun k _ hx=>Nat.lt_of_lt_of_le hx (Nat.le_add_right _ _)),HB3.out⟩
 case hstep=>
  rintro L a W i o ho hLi hdep ⟨t3,t4,t5,t6,t7,t8,s2,rfl,hb,hst,f0,f1,f2,f3,f4,f5,f6,c1,c3,c4,c5,c6⟩
  have HST:=KO hst
  have F0:=KO f0
  have F1:=KO f1
  have F2:=KO f2
  have F3:=KO f3
  have F4:=KO f4
  have F5:=KO f5
  have F6:=KO f6
  have C1:=KO c1
  have C3:=KO c3
  have C4:=KO c4
  have C5:=KO c5
  have C6:=KO c6
  have HB:=KO hb
  clear hb hst f0 f1 f2 f3 f4 f5 f6 c1 c3 c4 c5 c6
  have HLi:=KO hLi
  clear hLi
  match i,ho with
  |0,ho=>
   obtain rfl:=KQ ho
   clear hdep
   have hlast:L 6=false:=by
    cases h:L 6 with
    |false=>rfl
    |true=>exact absurd ((C1.out (C5.out (C6.out h)).1)) (by rw[HLi.out];exact KP)
   obtain⟨hg,hg1⟩:=HST.out hlast
   have HG:=KO hg
   have HG1:=KO hg1
   clear hg hg1
   refine KT rfl (fun K1 hK1=>?_)
   have hK:=KO hK1
   clear hK1
   go_wp2_with fail
   refine hK.out _ _ ?_;exact mI
  |1,ho=>
   obtain rfl:=KQ ho
   have hl0:=hdep ⟨0,.data⟩ (by simp) rfl
   obtain rfl:=F0.out hl0
   clear hdep
   have hlast:L 6=false:=by
    cases h:L 6 with
    |false=>rfl
    |true=>exact absurd ((C5.out (C6.out h)).1) (by rw[HLi.out];exact KP)
   obtain⟨hg,hg1⟩:=HST.out hlast
   have HG:=KO hg
   have HG1:=KO hg1
   clear hg hg1
   refine KT rfl (fun K1 hK1=>?_)
   have hK:=KO hK1
   clear hK1
   refine eQ rfl 24 (.tmp 3) rfl w.heap.size 0 rfl [.int .u8 c.tag,.int .i64 c.most,.int .i64 c.seg,.int .i64 c.least,.int .i64 c.den,.int .i64 c.leafLow,.int .i64 c.rootLow,.int .i64 c.rootHigh,.int .i64 c.leafHigh] _ (ae HG.out 0 9 rfl) underlying24 rfl bB ?_
   refine hK.out _ _ ?_;exact mI
  |2,ho=>
   obtain rfl:=KQ ho
   clear hdep
   have hlast:L 6=false:=by
    cases h:L 6 with
    |false=>rfl
    |true=>exact absurd ((C3.out (C4.out (C5.out (C6.out h)).2))) (by rw[HLi.out];exact KP)
   obtain⟨hg,hg1⟩:=HST.out hlast
   have HG:=KO hg
   have HG1:=KO hg1
   clear hg hg1
   refine KT rfl (fun K1 hK1=>?_)
   have hK:=KO hK1
   clear hK1
   go_wp2_with fail
   refine hK.out _ _ ?_;exact mI
  |3,ho=>
   obtain rfl:=KQ ho
   have hl2:=hdep ⟨2,.data⟩ (by simp) rfl
   obtain rfl:=F2.out hl2
   clear hdep
   have hlast:L 6=false:=by
    cases h:L 6 with
    |false=>rfl
    |true=>exact absurd ((C4.out (C5.out (C6.out h)).2)) (by rw[HLi.out];exact KP)
   obtain⟨hg,hg1⟩:=HST.out hlast
   have HG:=KO hg
   have HG1:=KO hg1
   clear hg hg1
   refine KT rfl (fun K1 hK1=>?_)
   have hK:=KO hK1
   clear hK1
   refine eQ rfl 29 (.tmp 5) rfl w.heap.size 9 rfl [.int .i64 s.seg,.slice s.wA s.ws.length s.wc,.slice s.kA s.ks.length s.kc,.slice s.vA s.vs.length s.vc,.slice s.cA s.cs.length s.cc,.int .u64 s.laid] _ (ae HG.out 9 6 rfl) underlying29 rfl fo ?_
   refine hK.out _ _ ?_;exact mI
  |4,ho=>
   obtain rfl:=KQ ho
   have hl3:=hdep ⟨3,.data⟩ (by simp) rfl
   obtain rfl:=F3.out hl3
   clear hdep
   have hlast:L 6=false:=by
    cases h:L 6 with
    |false=>rfl
    |true=>exact absurd ((C5.out (C6.out h)).2) (by rw[HLi.out];exact KP)
   obtain⟨hg,hg1⟩:=HST.out hlast
   have HG:=KO hg
   have HG1:=KO hg1
   clear hg hg1
   refine KT rfl (fun K1 hK1=>?_)
   have hK:=KO hK1
   clear hK1
   go_wp2_with (go_at_call 50;refine(HTW.out _ HB.out).mono ?_;rintro e1 W1 ⟨s3,rfl,hl2,hh2,hb1⟩)
   refine hK.out _ _ ?_;exact mI
  |5,ho=>
   obtain rfl:=KQ ho
   have hl1:=hdep ⟨1,.data⟩ (by simp) rfl
   obtain rfl:=F1.out hl1
   have hl4:=hdep ⟨4,.data⟩ (by simp) rfl
   have zz4:=KO (F4.out hl4).2
   obtain rfl:=(F4.out hl4).1
   clear hdep
   have hlast:L 6=false:=by
    cases h:L 6 with
    |false=>rfl
    |true=>exact absurd ((C6.out h)) (by rw[HLi.out];exact KP)
   obtain⟨hg,hg1⟩:=HST.out hlast
   have HG:=KO hg
   have HG1:=KO hg1
   clear hg hg1
   refine KT rfl (fun K1 hK1=>?_)
   have hK:=KO hK1
   clear hK1
   go_wp2_with fail
   refine hK.out _ _ ?_;exact mI
  |6,ho=>
   obtain rfl:=KQ ho
   have hl5:=hdep ⟨5,.data⟩ (by simp) rfl
   obtain rfl:=F5.out hl5
   clear hdep
   have hlast:=HLi.out
   obtain⟨hg,hg1⟩:=HST.out hlast
   have HG:=KO hg
   have HG1:=KO hg1
   clear hg hg1
   refine KT rfl (fun K1 hK1=>?_)
   have hK:=KO hK1
   clear hK1
   refine aF rfl 31 (.tmp 2) (.tmp 8) rfl (w.heap.size+1) 0 #[.int .u8 c.tag,.int .i64 c.most,.int .i64 c.seg,.int .i64 c.least,.int .i64 c.den,.int .i64 c.leafLow,.int .i64 c.rootLow,.int .i64 c.rootHigh,.int .i64 c.leafHigh,.int .i64 s2.seg,.slice s2.wA s2.ws.length s2.wc,.slice s2.kA s2.ks.length s2.kc,.slice s2.vA s2.vs.length s2.vc,.slice s2.cA s2.cs.length s2.cc,.int .u64 s2.laid] rfl rfl (aY HG1.out 0 15 (by simp)) bK (all_oneCell_toArray (by simp[K5])) ?_
   refine hK.out _ _ ?_;exact mI
def fV (c:Cfg) (s:Ss):Int:=if qp c s=0 then lU s else qp c s
theorem Jp (w:World) (c:Cfg) (s:Ss):∃W,w.alloc (.cells (cB c s) 31)=W/\Below w.heap.size w W/\Blk W w.heap.size 31 (cB c s):=⟨_,rfl,(KR _ _).alloc (KS _) _,Blk.new _ _ _⟩
theorem I6 {P:Prop} (h:P:=by
  obtain⟨R,hR⟩:∃R,fV c s=R:=⟨_,rfl⟩
  rw[hR]
  unfold fV at hR
  first|(have mz:=mk0;clear mz;have h1:=fun W (h:SsAt W s)=>vS c s W h ho hcap)|(have mz:=mk1;clear mz;have h1:=fun W (h:SsAt W s)=>xI c s W h ho)
  first|(have mz:=mk0;clear mz;have h2:=fun W (h:SsAt W s)=>mf s W h ho)|(have mz:=mk1;clear mz;have h2:=fun W (h:SsAt W s)=>xU s W h ho)
  obtain⟨E,hE⟩:∃E,qp c s=E:=⟨_,rfl⟩
  obtain⟨D,hD⟩:∃E,lU s=E:=⟨_,rfl⟩
  rw[hE]at h1 hR
  rw[hD]at h2 hR
  have H1:=KO h1
  have H2:=KO h2
  have HR:=KO hR
  obtain⟨W0,hW0,hb0,b0⟩:=Jp w c s
  have HW0:=KO hW0
  have HB0:=KO hb0
  have HP0:=KO b0
  have HSA:=KO (hs.below hb0)
  clear hW0 hb0 b0 hs ho h1 h2 hR hE hD
  first|go_enter func191,ntmps191|go_enter func100,ntmps100
  go_upto_region 1 with fail
  rw[HW0.out]
  try dsimp only[]
  repeat (first|refine eX HP0.out 0 underlying24 bB rfl rfl rfl rfl ?_|refine eX HP0.out 9 underlying29 fo rfl rfl rfl rfl ?_|go_values|go_skip|go_guarded|go_step|go_upon)
  refine(H1.out _ HSA.out).mono ?_
  rintro e w1 ⟨rfl,hb1⟩
  have HB1:=KO (aa HB0.out hb1)
  have HP1:=KO (HP0.out.below hb1 HP0.out.lt)
  have HSB:=KO (HSA.out.below hb1)
  clear hb1 HB0 HP0 HSA
  by_cases he:E=0
  case neg=>
   obtain rfl:R=E:=by rw[<-HR.out,if_neg he]
   go_wp2_with fail
   go_ret
   exact⟨rfl,HB1.out⟩
  case pos=>
  subst he
  obtain rfl:R=D:=HR.out.symm
  try dsimp only[]
  repeat (first|refine eX HP1.out 9 underlying29 fo rfl rfl rfl rfl ?_|go_values|go_skip|go_guarded|go_step|go_upon)
  refine(H2.out _ HSB.out).mono ?_
  rintro e w2 ⟨rfl,hb2⟩
  have HB2:=KO (aa HB1.out hb2)
  clear hb2
  go_wp2_with fail
  go_ret
  exact⟨rfl,HB2.out⟩):P:=h
theorem kr (c:Cfg) (s:Ss) (w:World) (hs:SsAt w s) (ho:SsOk s) (hcap:s.cs.length<=s.cc):
  Calls prog 191 #[.agg (cB c s)] w fun r w'=>r= .returned (.int .i64 (fV c s))/\Below w.heap.size w w':=by
 have mk0:=()
 exact I6
theorem pG (c:Cfg) (s:Ss) (w:World) (hs:SsAt w s) (ho:SsOk s):
  Calls prog 100 #[.agg (cB c s)] w fun r w'=>r= .returned (.int .i64 (fV c s))/\Below w.heap.size w w':=by
 have mk1:=()
 exact I6
theorem pU (c:Cfg) (s:Ss) (w:World) (hs:SsAt w s) (ho:SsOk s) (hm:bF s=true):
  Calls prog 89 #[.agg (cB c s)] w (dZ (bE s) w):=by
 have h1:=fun W (h:SsAt W s)=>sD s 0 s.ks.length W h ho (dL hm).1 (by omega) (by have:=(dL hm).2.1;omega)
 rw[Mx]at h1
 change ∀W,SsAt W s->Calls _ _ _ W (dZ (bE s) W)at h1
 obtain⟨L,hL⟩:∃L,bE s=L:=⟨_,rfl⟩
 rw[hL]at h1 ⊢
 have H1:=KO h1
 obtain⟨W0,hW0,hb0,b0⟩:=Jp w c s
 have HW0:=KO hW0
 have HB0:=KO hb0
 have HP0:=KO b0
 have HSA:=KO (hs.below hb0)
 clear hW0 hs ho hm h1 hL hb0
 have q11:W0.cell? ⟨w.heap.size,11,none⟩=some (.slice s.kA s.ks.length s.kc):=b0.cell 11
 clear b0
 go_enter func89,ntmps89
 go_upto_region 1 with fail
 rw[HW0.out]
 try dsimp only[]
 repeat (first|refine eX HP0.out 9 underlying29 fo rfl rfl rfl rfl ?_|go_values|go_skip|go_guarded|go_step|go_upon)
 refine(H1.out _ HSA.out).mono ?_
 rintro e w2 ⟨A1,c1,rfl,ho1,hb2⟩
 have HO1:=KO (av ho1 HB0.out.size)
 have HB2:=KO (aa HB0.out hb2)
 clear ho1 hb2 q11
 go_wp2_with fail
 go_ret
 exact⟨A1,c1,rfl,HO1.out,HB2.out⟩
theorem tN (c:Cfg) (s:Ss) (w:World) (hs:SsAt w s) (ho:SsOk s) (hcap:s.cs.length<=s.cc) (hp:fV c s=0) (hm:bF s=true):
  Calls prog 192 #[.agg (cB c s)] w (fP (bE s) 0 w):=by
 have h1:=fun W (h:SsAt W s)=>kr c s W h ho hcap
 rw[hp]at h1
 have h2:=fun W (h:SsAt W s)=>iC s 0 s.ks.length W h ho (by omega)
 rw[if_pos hm,if_pos hm,Mx]at h2
 change ∀W,SsAt W s->Calls _ _ _ W (fP (bE s) 0 W)at h2
 obtain⟨L,hL⟩:∃L,bE s=L:=⟨_,rfl⟩
 rw[hL]at h2 ⊢
 have H1:=KO h1
 have H2:=KO h2
 obtain⟨W0,hW0,hb0,b0⟩:=Jp w c s
 have HW0:=KO hW0
 have HB0:=KO hb0
 have HP0:=KO b0
 have HSA:=KO (hs.below hb0)
 clear hW0 hs ho hm h1 h2 hL hb0 hcap hp b0
 go_enter func192,ntmps192
 go_upto_region 1 with fail
 rw[HW0.out]
 try dsimp only[]
 repeat (first|refine eX HP0.out 0 underlying31 bK rfl rfl rfl rfl ?_|go_values|go_skip|go_guarded|go_step|go_upon)
 refine(H1.out _ HSA.out).mono ?_
 rintro e w1 ⟨rfl,hb1⟩
 have HB1:=KO (aa HB0.out hb1)
 have HP1:=KO (HP0.out.below hb1 HP0.out.lt)
 have HSB:=KO (HSA.out.below hb1)
 clear hb1 HB0 HP0 HSA
 have q11:w1.cell? ⟨w.heap.size,11,none⟩=some (.slice s.kA s.ks.length s.kc):=HP1.out.cell 11
 try dsimp only[]
 repeat (first|refine eX HP1.out 9 underlying29 fo rfl rfl rfl rfl ?_|go_values|go_skip|go_guarded|go_step|go_upon)
 refine(H2.out _ HSB.out).mono ?_
 rintro e w2 ⟨A1,c1,rfl,ho1,hb2⟩
 have HO1:=KO (av ho1 HB1.out.size)
 have HB2:=KO (aa HB1.out hb2)
 clear ho1 hb2 q11
 go_wp2_with fail
 refine KV (v:= .tuple #[.slice A1 L.length c1,.int .i64 0]) (by simp[results,results192,go_sem]) rfl ?_
 exact⟨A1,c1,rfl,HO1.out,HB2.out⟩
def uk:Nat->Nat->Nat->List Nat
 |0,_,r=>[r]
 |f+1,lv,r=>if lv<=1 then[r]else uk f (lv/2) r++(Lt (2 ^ (lv/2))).flatMap fun i=>uk f (lv-lv/2) (r*2 ^ (lv/2)+i)
theorem lG:∀(f g lv r:Nat),lv<=f+1->lv<=g+1->uk f lv r=uk g lv r
 |0,0,_,_,_,_=>rfl
 |0,g+1,lv,r,h,_=>by
  have h1:lv<=1:=by omega
  simp only[uk,if_pos h1]
 |f+1,0,lv,r,_,h=>by
  have h1:lv<=1:=by omega
  simp only[uk,if_pos h1]
 |f+1,g+1,lv,r,h1,h2=>by
  by_cases h:lv<=1
  ·simp only[uk,if_pos h]
  ·simp only[uk,if_neg h]
   rw[lG f g (lv/2) r (by omega) (by omega)]
   congr 2
   funext i
   exact lG f g _ _ (by omega) (by omega)
def bS (lv r:Nat):List Nat:=uk lv lv r
theorem wU (r:Nat):bS 1 r=[r]:=rfl
theorem oq {lv:Nat} (r:Nat) (h:2<=lv):bS lv r=bS (lv/2) r++(Lt (2 ^ (lv/2))).flatMap fun i=>bS (lv-lv/2) (r*2 ^ (lv/2)+i):=by
 obtain⟨f,rfl⟩:∃f,lv=f+1:=⟨lv-1,by omega⟩
 unfold bS
 rw[uk,if_neg (by omega),lG f ((f+1)/2) _ _ (by omega) (by omega)]
 congr 2
 funext i
 exact lG _ _ _ _ (by omega) (by omega)
theorem yl {l:List Nat} {f:Nat->List Nat} {n:Nat} (h:∀i∈l,(f i).length=n):(l.flatMap f).length=l.length*n:=by
 induction l with
 |nil=>simp
 |cons x l ih=>
  rw[Nk,List.length_append,h x (LY),ih fun i hi=>h i (K4 _ hi),List.length_cons,ML,Mo,Nat.add_comm]
theorem gQ:∀(lv r:Nat),1<=lv->(bS lv r).length=2 ^ lv-1:=by
 intro lv
 induction lv using Ng with
 |_ lv ih=>
  intro r h
  by_cases h1:lv=1
  ·subst h1;rfl
  ·rw[oq r (by omega),List.length_append,ih _ (by omega) _ (by omega),yl (n:=2 ^ (lv-lv/2)-1) (fun i _=>ih _ (by omega) _ (by omega)),List.length_range,Nat.mul_sub,Nat.mul_one,<-Mt]
   rw[show lv/2+(lv-lv/2)=lv by omega]
   have h2:=MJ (lv/2)
   have h3:2 ^ (lv/2)<=2 ^ lv:=Lj (n:=2) (by decide) (by omega)
   omega
theorem AC:∀lv,lv<=7->1<=lv->(bS lv 1).all (fun x=>decide (1<=x)&&decide (x<=2 ^ lv-1))=true:=by decide+kernel
theorem xR (lv:Nat) (w:World) (h1:1<=lv) (h2:lv<=7):Calls prog 248 #[.int .i64 (lv:Nat)] w fun r w'=>r= .returned (.int .i64 0)/\w'=w:=by
 have i1:¬(lv:Int)< 1:=by omega
 have i2:¬(14:Int)< (lv:Int):=by omega
 go_enter func248,ntmps248
 go_wp2_with fail
 go_ret
 exact⟨rfl,rfl⟩
theorem D6 (lv N:Nat) (w:World) (h1:1<=lv) (h2:lv<=7) (hN:2 ^ lv-1=N):Calls prog 246 #[.int .i64 (lv:Nat)] w fun r w'=>r= .returned (.tuple #[.int .i64 (N:Nat),.int .i64 0])/\w'=w:=by
 have HT:=KO (fun W=>xR lv W h1 h2)
 have hp:=dP h2
 have hp0:=MJ lv
 obtain⟨Y,hY⟩:∃Y,2 ^ lv=Y:=⟨_,rfl⟩
 rw[hY]at hp hp0 hN
 have HY:=KO (show 1*2 ^ lv=Y/\lv< 64/\Y<=1000000 from⟨by rw[Mo,hY],by omega,by omega⟩)
 have hw1:IntKind.i64.wrap ((Y:Int)-1)=(N:Int):=by rw[KU _ (by omega)];omega
 clear hp hp0 hY hN h1 h2
 go_enter func246,ntmps246
 go_wp2_with fail
 refine(HT.out _).mono ?_
 rintro e w1 ⟨rfl,hw⟩
 rw[hw]
 clear hw w1
 go_wp2_with (refine gz rfl (.const (.int .i64 1)) (.tmp 10) _ rfl 1 lv Y HY.out.2.1 rfl rfl HY.out.1 HY.out.2.2 ?_)
 refine KV (v:= .tuple #[.int .i64 N,.int .i64 0]) (by simp[results,results246,go_sem]) rfl ?_
 exact⟨rfl,rfl⟩
theorem Dv (lv u l:Nat) (w:World) (h1:2<=lv) (h2:lv<=7) (hu:lv/2=u) (hl:lv-lv/2=l):Calls prog 249 #[.int .i64 (lv:Nat)] w fun r w'=>r= .returned (.tuple #[.int .i64 (u:Nat),.int .i64 (l:Nat),.int .i64 0])/\w'=w:=by
 have HT:=KO (fun W=>xR lv W (by omega) h2)
 have i1:¬(lv:Int)=1:=by omega
 have hw1:IntKind.i64.wrap ((lv:Int)+1)=((lv+1:Nat):Int):=by rw[KU _ (by omega)];omega
 have j1:(lv:Int).tdiv 2=(u:Int):=by rw[M4 (by omega)];omega
 have j2:((lv+1:Nat):Int).tdiv 2=(l:Int):=by rw[M4 (by omega)];omega
 have j3:(lv:Int)/2=(u:Int):=by omega
 have j4:((lv+1:Nat):Int)/2=(l:Int):=by omega
 obtain⟨m,hm⟩:∃m,lv+1=m:=⟨_,rfl⟩
 rw[hm]at hw1 j2 j4
 have hw2:IntKind.i64.wrap (u:Int)=(u:Int):=KU _ (by omega)
 have hw3:IntKind.i64.wrap (l:Int)=(l:Int):=KU _ (by omega)
 clear hu hl h1 h2 hm
 go_enter func249,ntmps249
 go_wp2_with fail
 refine(HT.out _).mono ?_
 rintro e w1 ⟨rfl,hw⟩
 rw[hw]
 clear hw w1
 go_wp2_with fail
 refine KV (v:= .tuple #[.int .i64 u,.int .i64 l,.int .i64 0]) (by simp[results,results249,go_sem]) rfl ?_
 exact⟨rfl,rfl⟩
theorem sS (lv N:Nat) (w:World) (h2:lv<=7) (hN:2 ^ lv-1=N):Calls prog 134 #[.int .i64 (lv:Nat)] w fun r w'=>r= .returned (.int .i64 (N:Nat))/\w'=w:=by
 have hpo:=fun W=>jO lv W (by omega)
 have hp:=dP h2
 have hp0:=MJ lv
 obtain⟨Y,hY⟩:∃Y,2 ^ lv=Y:=⟨_,rfl⟩
 rw[hY]at hp hp0 hN hpo
 have HPO:=KO hpo
 have hw1:IntKind.i64.wrap ((Y:Int)-1)=(N:Int):=by rw[KU _ (by omega)];omega
 clear hp hp0 hY hN h2 hpo
 go_enter func134,ntmps134
 go_wp2_with fail
 refine(HPO.out _).mono ?_
 rintro e w1 ⟨rfl,hw⟩
 rw[hw]
 clear hw w1
 go_wp2_with fail
 go_ret
 exact⟨rfl,rfl⟩
theorem zb (lv F:Nat) (w:World) (h1:1<=lv) (h2:lv<=7) (hF:2 ^ (lv-1)=F):Calls prog 156 #[.int .i64 (lv:Nat)] w fun r w'=>r= .returned (.int .i64 (F:Nat))/\w'=w:=by
 have hpo:=fun W=>jO (lv-1) W (by omega)
 rw[hF]at hpo
 have HPO:=KO hpo
 obtain⟨k,hk⟩:∃k,lv-1=k:=⟨_,rfl⟩
 have hw1:IntKind.i64.wrap ((lv:Int)-1)=(k:Int):=by rw[KU _ (by omega)];omega
 rw[hk]at HPO
 clear hF h1 h2 hpo hk
 go_enter func156,ntmps156
 go_wp2_with fail
 refine(HPO.out _).mono ?_
 rintro e w1 ⟨rfl,hw⟩
 rw[hw]
 clear hw w1
 go_wp2_with fail
 go_ret
 exact⟨rfl,rfl⟩
def uU (p:Nat × Nat):List Value:=[nv p.1,nv p.2]
def pend (st:List (Nat × Nat)):List Nat:=st.reverse.flatMap fun p=>bS p.1 p.2
def mu (st:List (Nat × Nat)):Nat:=(st.map fun p=>2*(2 ^ p.1-1)-1).sum
theorem jJ (st:List (Nat × Nat)) (p:Nat × Nat):pend (st++[p])=bS p.1 p.2++pend st:=by unfold pend;simp
theorem qH (st:List (Nat × Nat)) (p:Nat × Nat):mu (st++[p])=mu st+(2*(2 ^ p.1-1)-1):=by unfold mu;simp
def jT (u l r k:Nat):List (Nat × Nat):=(Lt k).map fun i=>(l,r*2 ^ u+2 ^ u-1-i)
theorem oL (u l r k:Nat):jT u l r (k+1)=jT u l r k++[(l,r*2 ^ u+2 ^ u-1-k)]:=by unfold jT;rw[List.range_succ,MR];rfl
theorem BK (u l r:Nat):∀k,mu (jT u l r k)=k*(2*(2 ^ l-1)-1)
 |0=>by simp[jT,mu]
 |k+1=>by rw[oL,qH,BK u l r k,ML,Mo]
theorem vv (u l r:Nat):∀k,k<=2 ^ u->pend (jT u l r k)=(List.range' (2 ^ u-k) k).flatMap fun i=>bS l (r*2 ^ u+i)
 |0,_=>by simp[jT,pend]
 |k+1,h=>by
  rw[oL,jJ,vv u l r k (by omega),List.range'_succ,Nk]
  rw[show 2 ^ u-(k+1)+1=2 ^ u-k by omega,show r*2 ^ u+2 ^ u-1-k=r*2 ^ u+(2 ^ u-(k+1))by omega]
theorem E9 (a b:List (Nat × Nat)):pend (a++b)=pend b++pend a:=by unfold pend;simp
theorem JP (a b:List (Nat × Nat)):mu (a++b)=mu a+mu b:=by unfold mu;simp
structure VebS (T:List Nat) (out:List Nat) (st:List (Nat × Nat)):Prop where
 eq:out++pend st=T
 lv:∀p∈st,1<=p.1/\p.1<=7
theorem EE:∀(st:List (Nat × Nat)),(∀p∈st,1<=p.1/\p.1<=7)->st.length<=mu st/\mu st+st.length<=2*(pend st).length
 |[],_=>⟨KS _,KS _⟩
 |p::st,h=>by
  have ih:=EE st fun q hq=>h q (K4 _ hq)
  have hp:=h p LY
  have h1:=gQ p.1 p.2 hp.1
  have h2:2 ^ 1<=2 ^ p.1:=Lj (n:=2) (by decide) hp.1
  have h3:mu (p::st)=(2*(2 ^ p.1-1)-1)+mu st:=by unfold mu;simp
  have h4:(pend (p::st)).length=(pend st).length+(bS p.1 p.2).length:=by unfold pend;simp[L9]
  rw[h3,h4,h1,List.length_cons]
  omega
theorem Gh:∀lv r,1<=lv->r∈bS lv r:=by
 intro lv
 induction lv using Ng with
 |_ lv ih=>
  intro r h
  by_cases h1:lv=1
  ·subst h1;rw[wU];exact List.mem_singleton_self _
  ·rw[oq r (by omega)]
   exact List.mem_append_left _ (ih _ (by omega) _ (by omega))
theorem IM {w:World} {A:Option Addr} {st:List (Nat × Nat)} {p:Nat × Nat} (h:Sl w A ((st++[p]).flatMap uU)):∃b o,A=some ⟨b,o,none⟩/\w.cell? ⟨b,o+st.length*2,none⟩=some (.int .i64 (p.1:Nat))/\w.cell? ⟨b,o+st.length*2+1,none⟩=some (.int .i64 (p.2:Nat)):=by
 have hl:=aQ uU 2 (fun _=>rfl) st
 rw[L9]at h
 rcases h with h0|⟨b,o,hA,_,hc⟩
 ·simp[uU]at h0
 ·refine⟨b,o,hA,hc _ _ ?_,?_⟩
  ·rw[Ma (by omega),hl];simp[uU,nv]
  ·rw[Nat.add_assoc];refine hc _ _ ?_
   rw[Ma (by omega),hl];simp[uU,nv]
theorem vw {w:World} {B:Nat} {e:TypeId} {s:Nat} {A:Option Addr} {n c k:Nat} {xs ys:List Value} (h:w.ownsRow B e s (.slice A n c) n xs) (hk:k<=n) (hn:0< n) (hy:xs.take (k*s)=ys):w.ownsRow B e s (.slice A k c) k ys:=by
 obtain⟨hx,h0|⟨g,cap,cur,hv,h1,h2,h3,h4,h5,h6⟩⟩:=h
 ·omega
 ·cases hv
  have hks:k*s<=n*s:=LH _ hk
  refine⟨by rw[<-hy,List.length_take];omega,.inr ⟨g,c,cur,rfl,h1,h2,by omega,h4,h5,?_⟩⟩
  rw[<-hy,<-h6,List.take_take,Nat.min_eq_left hks]
theorem Af {w w':World} {base s n g:Nat} {e t:TypeId} {v:Value} {xs:List Value} {cs:Array Value} (hg:w.grownBy w' v.ownBlock) (ho:w.ownsRow base e s v n xs) (hb:Blk w g t cs) (hne:e≠t):Blk w' g t cs:=by
 refine hb.of (hg.block g hb.lt ?_)
 intro h
 rcases ho.2 with⟨rfl,_⟩|⟨k,cap,cur,rfl,_,hk,_⟩
 ·simp[M9]at h
 ·simp[M9]at h
  subst h
  have:=hk.symm.trans hb
  simp at this
  exact hne this.2
theorem mO {w w':World} {base base' s s' n n':Nat} {e t:TypeId} {v v':Value} {xs xs':List Value} (hg:w.grownBy w' v.ownBlock) (ho:w.ownsRow base e s v n xs) (hb:w.ownsRow base' t s' v' n' xs') (hne:e≠t):w'.ownsRow base' t s' v' n' xs':=by
 refine⟨hb.1,?_⟩
 rcases hb.2 with h1|⟨g,cap,cur,h1,h2,h3,h4⟩
 ·exact .inl h1
 ·exact .inr ⟨g,cap,cur,h1,h2,Af hg ho h3 hne,h4⟩
def Ky (T:List Nat) (lv:Nat) (w:World) (g:Nat) (a:Act) (wr:World):Prop:=
 ∃(out:List Nat) (st:List (Nat × Nat)) (A1 A2:Option Addr) (m1 m2 c1 c2:Nat) (u1 u4 u5 u6 u7 u8 u9 u10 u11 u12 u13 u14 u15 u16 u17 u18 u19 u20 u21 u22 u23 u24 u25 u26 u27 u28 u29 u30 u31 u32 u33 u34 u35 u36 u37 u38 u39 u40 u41 u42 u43 u44 u45 u46 u47 u48 u49 u50 u51 u52 u53 u54 u55 u56 u57 u58 u59 u60 u61 u62 u63 u64 u65 u66 u67 u68 u69:Value),a=⟨#[.int .i64 (lv:Nat),u1,.slice A1 m1 c1,.slice A2 m2 c2,u4,u5,u6,u7,u8,u9,u10,u11,u12,u13,u14,u15,u16,u17,u18,u19,u20,u21,u22,u23,u24,u25,u26,u27,u28,u29,u30,u31,u32,u33,u34,u35,u36,u37,u38,u39,u40,u41,u42,u43,u44,u45,u46,u47,u48,u49,u50,u51,u52,u53,u54,u55,u56,u57,u58,u59,u60,u61,u62,u63,u64,u65,u66,u67,u68,u69],[]⟩/\Hid (VebS T out st/\mu st<=g/\(m1=out.length/\m2=st.length)/\wr.ownsRow w.heap.size 3 1 (.slice A1 m1 c1) m1 (out.map nv)/\wr.ownsRow w.heap.size 291 2 (.slice A2 m2 c2) m2 (st.flatMap uU)/\Below w.heap.size w wr)
theorem Ev:(prog.info? 291).map (fun i=>(i.zero,i.size,i.bytes))=some (some (.agg #[.int .i64 0,.int .i64 0]),2,16):=by kernel_rfl
structure VebN (w W:World) (gB:Nat) (A:Option Addr) (c m:Nat) (xs:List Value) (A1:Option Addr) (m1 c1:Nat) (out:List Nat) (lp rp:Nat):Prop where
 bel:Below w.heap.size w W
 row:W.ownsRow w.heap.size 291 2 (.slice A m c) m xs
 out:W.ownsRow w.heap.size 3 1 (.slice A1 m1 c1) m1 (out.map nv)
 box:Blk W gB 291 #[.int .i64 (lp:Nat),.int .i64 (rp:Nat)]
 far:∀a,A=some a->a.block≠gB
theorem IC {w:World} {B:Nat} {e:TypeId} {a:Addr} {n c:Nat} {xs:List Value} {x y:Value} (h:w.ownsRow B e 2 (.slice (some a) n c) n xs) (hn:0< n) (hb:Blk w a.block e #[x,y]):xs=[x,y]:=by
 obtain⟨hx,h0|⟨g,cap,cur,hv,h1,h2,h3,h4,h5,h6⟩⟩:=h
 ·cases h0.1
 ·cases hv
  have:=h2.symm.trans hb
  simp at this
  subst this
  simp at h5
  obtain rfl:n=1:=by omega
  simpa using h6.symm
theorem VebN.push {w W W1:World} {gB:Nat} {A:Option Addr} {c m:Nat} {xs:List Value} {A1:Option Addr} {m1 c1:Nat} {out:List Nat} {lp rp:Nat} {A2:Option Addr} {c2:Nat} {x y:Int} {v:Value}
  (h:VebN w W gB A c m xs A1 m1 c1 out lp rp) (hg:(W.drew.alloc (.cells #[.int .i64 x,.int .i64 y] 291)).grownBy W1 (Value.slice A m c).ownBlock) (ho:W1.ownsRow w.heap.size 291 2 v (m+1) (xs++[.int .i64 x,.int .i64 y])) (hx:x≠(lp:Int)) (hv:v= .slice A2 (m+1) c2):
  VebN w W1 gB A2 c2 (m+1) (xs++[.int .i64 x,.int .i64 y]) A1 m1 c1 out lp rp:=by
 subst hv
 have hsz:=h.bel.size
 have hrow:=(h.row.drew).alloc (.cells #[.int .i64 x,.int .i64 y] 291)
 have hbx:Blk W1 gB 291 #[.int .i64 (lp:Nat),.int .i64 (rp:Nat)]:=by
  have h1:Blk W.drew gB 291 #[.int .i64 (lp:Nat),.int .i64 (rp:Nat)]:=h.box
  refine(h1.alloc _).of (hg.block gB (h1.alloc _).lt ?_)
  intro e
  obtain⟨-,h0|⟨g0,cap,cur,hv,-⟩⟩:=h.row
  ·rw[h0.1]at e;simp[M9]at e
  ·rw[hv]at e
   simp[M9]at e
   cases hv
   exact h.far _ rfl e.symm
 refine⟨(h.bel.drew.alloc hsz _).grown hg (KY hsz (by rw[KX];exact Mm _)) (fun q hq=>(hrow.lt q hq).1),ho,mO hg hrow ((h.out.drew).alloc _) (by decide),hbx,?_⟩
 intro a ha e
 subst ha
 rw[<-e]at hbx
 have h2:=IC ho (Nat.succ_pos m) hbx
 have h3:xs=[]:=by
  have h4:=congrArg List.length h2
  rw[List.length_append]at h4
  simp at h4
  exact h4
 rw[h3]at h2
 simp at h2
 exact hx h2.1
theorem xG {o:Oper} {ops:Array Oper} {a:Act} {w:World} {K:Act->World->Prop} {Q:Exit->Act->World->Prop} {E:Prop} (hgd:o.guard=none) (s x:Operand) (ty:TypeId)
  (ho:o.op= .binOp .shl 3 s x ty) (X m Y:Nat) (hm:m< 64) (hs:a.eval s= .int .i64 (X:Nat)) (hx:a.eval x= .int .i64 (m:Nat)) (hY:X*2 ^ m=Y) (hb:Y<=1000000)
  (h:K (a.put o.dst (.int .i64 (Y:Nat))) w):if L8 o (yielded ops a.tmps)=true then Oper.wp prog o a w K Q else E:=by
 have hw:L8 o (yielded ops a.tmps)=true:=by simp[L8,hgd]
 rw[if_pos hw]
 exact GN s x ty ho X m Y hm hs hx hY hb h
theorem eO {P:Prop} (h:P:=by
  iterate 18 apply Exists.intro
  refine⟨rfl,?_,?_,?_,?_,?_,?_,?_,?_,?_,?_,?_,?_,?_,?_,?_,?_,?_,?_,?_,?_,?_,?_,?_,?_,?_,?_,?_,?_,?_,?_,?_⟩
  ·first|exact F0.out|exact fun _=>rfl
  ·first|exact F1.out|exact fun _=>rfl
  ·first|exact F2.out|exact fun _=>rfl
  ·first|exact F3.out|exact fun _=>rfl
  ·first|exact F4.out|exact fun _=>rfl
  ·first|exact F5.out|exact fun _=>rfl
  ·first|exact F6.out|exact fun _=>rfl
  ·first|exact F7.out|exact fun _=>rfl
  ·first|exact F8.out|exact fun _=>rfl
  ·first|exact F9.out|exact fun _=>rfl
  ·first|exact F10.out|exact fun _=>rfl
  ·first|exact F11.out|exact fun _=>rfl
  ·first|exact F12.out|exact fun _=>rfl
  ·first|exact F13.out|exact fun _=>rfl
  ·first|exact F14.out|exact fun _=>rfl|exact(fun h=>absurd (show L 14=true by simpa using h) (by intro h;exact absurd ((C14.out h).2) (by rw[HLi.out];exact KP)))
  ·first|exact F15.out|exact fun _=>rfl|exact(fun h=>absurd (show L 15=true by simpa using h) (by intro h;exact absurd ((C14.out (C15.out h)).2) (by rw[HLi.out];exact KP)))|exact(fun h=>absurd (show L 15=true by simpa using h) (by intro h;exact absurd ((C15.out h)) (by rw[HLi.out];exact KP)))
  ·first|exact O15.out|exact fun _=>rfl|(intro h;refine absurd h ?_;simp;done;done)
  ·first|(intro h;have hh:=C3.out (by simpa using h);simp[hh];done)|(intro _;simp[hl2];done)
  ·first|(intro h;have hh:=C5.out (by simpa using h);simp[hh];done)|(intro _;simp[hl3,hl4];done)
  ·first|(intro h;have hh:=C7.out (by simpa using h);simp[hh];done)|(intro _;simp[hl6];done)
  ·first|(intro h;have hh:=C8.out (by simpa using h);simp[hh];done)|(intro _;simp[hl5,hl7];done)
  ·first|(intro h;have hh:=C9.out (by simpa using h);simp[hh];done)|(intro _;simp[hl8];done)
  ·first|(intro h;have hh:=C11.out (by simpa using h);simp[hh];done)|(intro _;simp[hl9,hl10];done)
  ·first|(intro h;have hh:=C12.out (by simpa using h);simp[hh];done)|(intro _;simp[hl1,hl11];done)
  ·first|(intro h;have hh:=C13.out (by simpa using h);simp[hh];done)|(intro _;simp[hl12];done)
  ·first|(intro h;have hh:=C14.out (by simpa using h);simp[hh];done)|(intro _;simp[hl0,hl13];done)
  ·first|(intro h;have hh:=C15.out (by simpa using h);simp[hh];done)|(intro _;simp[hl14];done)
  ·first|exact S12.out|exact fun _=>rfl|(intro h;refine absurd h ?_;simp;done;done)|(intro h;refine absurd h ?_;have hh:=hl13;simp[hh];done;done)|(intro h;refine absurd h ?_;have hh:=(C14.out hl14).2;simp[hh];done;done)
  ·first|exact fun _ _=>rfl|exact(fun h h2=>S13.out (by simpa using h) (by simpa using h2))|(intro h h2;refine absurd h2 ?_;simp;done;done)|(intro h h2;refine absurd h2 ?_;have hh:=hl14;simp[hh];done;done)
  ·first|exact fun _ _=>hnew|exact(fun h h2=>S14.out (by simpa using h) (by simpa using h2))|exact(fun h _=>absurd (show L 14=true by simpa using h) (by intro h;exact absurd ((C14.out h).2) (by rw[HLi.out];exact KP)))|(intro h h2;refine absurd h2 ?_;simp;done;done)
  ·first|exact S15.out|exact fun _=>hst|exact(fun h=>absurd (show L 15=true by simpa using h) (by intro h;exact absurd ((C14.out (C15.out h)).2) (by rw[HLi.out];exact KP)))|exact(fun h=>absurd (show L 15=true by simpa using h) (by intro h;exact absurd ((C15.out h)) (by rw[HLi.out];exact KP)))):P:=h
theorem Dh (lv:Nat) (w:World) (h1:1<=lv) (h7:lv<=7):Calls prog 247 #[.int .i64 (lv:Nat)] w (iX 3 ((bS lv 1).map nv) (bS lv 1).length w):=by
 obtain⟨tp,hp,hp0,hp1,hp2⟩:=LU Ev
 obtain⟨ti,hi,hi0,hi1,hi2⟩:=LU jQ
 have HPI:=KO (KW hp (KW hp0 (KW hp1 hp2)))
 have HII:=KO (KW hi (KW hi0 (KW hi1 hi2)))
 have hle:=AC lv h7 h1
 have hln:=gQ lv 1 h1
 have hlm:=dP h7
 have h0:VebS (bS lv 1) [] [(lv,1)]:=⟨by simp[pend],fun p hp=>by simp at hp;subst hp;exact⟨h1,h7⟩⟩
 obtain⟨T,hT⟩:∃T,bS lv 1=T:=⟨_,rfl⟩
 rw[hT]at hle hln h0 ⊢
 have HT:=KO (show(∀x∈T,x<=127)/\T.length<=127 from⟨fun x hx=>by
  rw[MC]at hle
  have:=hle x hx
  simp at this
  omega,by omega⟩)
 have H0:=KO h0
 clear hle hln hlm hT h0 h1 h7 hp hp0 hp1 hp2 hi hi0 hi1 hi2
 go_enter func247,ntmps247
 go_wp2_with fail
 refine iB 0 (Ky T lv w) rfl ?pass ?first
 case first=>
  rintro K hK
  have HK:=KO hK
  clear hK
  have hb0:Below w.heap.size w (w.alloc (.cells #[.int .i64 (lv:Nat),.int .i64 1] 291)):=(KR _ _).alloc (KS _) _
  have ho:(w.alloc (.cells #[.int .i64 (lv:Nat),.int .i64 1] 291)).ownsRow w.heap.size 291 2 (.slice (some ⟨w.heap.size,0,none⟩) 1 1) 1 ([(lv,1)].flatMap uU):=⟨rfl,.inr ⟨w.heap.size,1,_,rfl,KS _,Blk.new w _ _,KS _,by unfold maxLen;omega,rfl,rfl⟩⟩
  have HB0:=KO hb0
  have HO:=KO ho
  clear hb0 ho
  go_wp2_with fail
  go_step3
  rename_i hk
  exact hk _ _ (HK.out (mu [(lv,1)]) _ _ ⟨[],[(lv,1)],none,some ⟨w.heap.size,0,none⟩,0,1,0,1,_,_,_,_,_,_,_,_,_,_,_,_,_,_,_,_,_,_,_,_,_,_,_,_,_,_,_,_,_,_,_,_,_,_,_,_,_,_,_,_,_,_,_,_,_,_,_,_,_,_,_,_,_,_,_,_,_,_,_,_,_,_,_,_,_,_,_,rfl,H0.out,KS _,⟨rfl,rfl⟩,World.ownsRow_nil _ _ _ _,HO.out,HB0.out⟩)
 case pass=>
  clear H0
  rintro g a' wr ⟨out,st,A1,A2,m1,m2,c1,c2,u1,u4,u5,u6,u7,u8,u9,u10,u11,u12,u13,u14,u15,u16,u17,u18,u19,u20,u21,u22,u23,u24,u25,u26,u27,u28,u29,u30,u31,u32,u33,u34,u35,u36,u37,u38,u39,u40,u41,u42,u43,u44,u45,u46,u47,u48,u49,u50,u51,u52,u53,u54,u55,u56,u57,u58,u59,u60,u61,u62,u63,u64,u65,u66,u67,u68,u69,rfl,hI⟩ K hK
  have HK:=KO hK
  obtain⟨hv,hmu,⟨hm1,hm2⟩,ho1,ho2,hb⟩:=hI.out
  clear hK hI
  rcases List.eq_nil_or_concat st with hst|⟨st0,p,hst⟩
  ·subst hst
   have HR:=KO (show out=T by have:=hv.eq;simpa[pend]using this)
   have hmz:m2=0:=hm2
   subst hmz
   have HM:=KO hm1
   have HO:=KO ho1
   have HB:=KO hb
   clear hv hmu ho1 ho2 hb hm1 hm2
   go_wp2_with fail
   simp only[Exit.jump]
   refine KV (v:= .slice A1 m1 c1) (by simp[results,results247,go_sem]) rfl ?_
   have hm:=HM.out
   subst hm
   rw[<-HR.out]
   exact⟨A1,c1,rfl,HO.out,HB.out⟩
  ·rw[List.concat_eq_append]at hst
   subst hst
   have hpl:=hv.lv p (List.mem_append_right _ (List.mem_singleton_self p))
   have hml:=EE _ hv.lv
   have hpd:(pend (st0++[p])).length<=127:=by
    have h2:=congrArg List.length hv.eq
    rw[List.length_append]at h2
    have:=HT.out.2
    omega
   have hlen:(st0++[p]).length=st0.length+1:=by simp
   rw[hlen]at hml hm2
   obtain⟨bA,oA,e2,d0,d1⟩:=IM (aA ho2)
   obtain⟨n,hn⟩:∃n,st0.length=n:=⟨_,rfl⟩
   rw[hn]at hml d0 d1 hm2
   obtain⟨lp,rp⟩:=p
   dsimp only at hpl d0 d1
   have hcap:=wz ho2
   have hn9:n<=300:=by omega
   have i1:¬(m2:Int)=0:=by omega
   have i3:(0:Int)<=(n:Int):=by omega
   have i4:(n:Int)< (m2:Int):=by omega
   have i5:(n:Int)<=(c2:Int):=by omega
   have hcz:¬c2=0:=by omega
   have hw1:IntKind.i64.wrap ((m2:Int)-1)=(n:Int):=by rw[KU _ (by omega)];omega
   have HO1:=KO ho1
   have HO2:=KO ho2
   have HB:=KO hb
   have HV:=KO hv
   have HMU:=KO hmu
   have HM1:=KO hm1
   have HN:=KO (show st0.length=n/\n+1=m2/\n<=300/\(1<=lp/\lp<=7)from⟨hn,hm2.symm,hn9,hpl⟩)
   subst e2
   clear ho1 ho2 hb hv hmu hn hn9 hpl hml hpd hlen hcap hm1 hm2
   go_upto_region 6 with fail
   by_cases h1:lp=1
   ·have i6:(lp:Int)=1:=by omega
    have HT2:=KO (vw HO2.out (k:=n) (by have:=HN.out;omega) (by have:=HN.out;omega) (ys:=st0.flatMap uU) (by
     have hl:=aQ uU 2 (fun _=>rfl) st0
     rw[L9,HN.out.1]at*
     rw[List.take_append_of_le_length (by omega),KZ (by omega)]))
    obtain⟨W5,hW5⟩:∃W,wr.alloc (.cells #[.int .i64 (lp:Nat),.int .i64 (rp:Nat)] 291)=W:=⟨_,rfl⟩
    have hb5:Below w.heap.size w W5:=by rw[<-hW5];exact HB.out.alloc HB.out.size _
    have ho5:W5.ownsRow w.heap.size 3 1 (.slice A1 m1 c1) m1 (out.map nv):=by rw[<-hW5];exact HO1.out.alloc _
    have ht5:W5.ownsRow w.heap.size 291 2 (.slice (some ⟨bA,oA,none⟩) n c2) n (st0.flatMap uU):=by rw[<-hW5];exact HT2.out.alloc _
    have k5:Blk W5 wr.heap.size 291 #[.int .i64 (lp:Nat),.int .i64 (rp:Nat)]:=by rw[<-hW5];exact Blk.new _ _ _
    obtain⟨gB,hgB⟩:∃x,wr.heap.size=x:=⟨_,rfl⟩
    rw[hgB]at k5
    try rw[hgB]
    try rw[hW5]
    have b0:W5.cell? ⟨gB,0,none⟩=some (.int .i64 (lp:Nat)):=k5.cell 0
    have b1:W5.cell? ⟨gB,1,none⟩=some (.int .i64 (rp:Nat)):=k5.cell 1
    have HO5:=KO ho5
    have HT5:=KO ht5
    have HB5:=KO hb5
    have HSZ:=KO hb5.size
    clear ho5 ht5 hb5 k5 hW5 hgB HT2
    have HM9:=KO (show m1<=127 by
     have h2:=congrArg List.length HV.out.eq
     rw[List.length_append]at h2
     have:=HT.out.2
     have:=HM1.out
     omega)
    clear i1 i3 i4 i5 hcz hw1 d0 d1
    go_wp2_with (at_builtin;refine ag _ rfl (.tmp 30) (.tmp 33) _ rfl w.heap.size 3 ti _ 1 8 underlying27 HII.out.1 HII.out.2.1 HII.out.2.2.1 HII.out.2.2.2 rfl (by omega) (.slice A1 m1 c1) _ _ rfl (HO5.out.alloc _) _ 1 _ [nv rp] rfl ((Blk.new W5 3 #[.int .i64 (rp:Nat)]).sl 0 [nv rp] (by intro j u hu;simpa[nv]using hu)) (by simp) (by simp[nv,K5]) (by unfold maxLen;have:=HM9.out;omega) (by have:=HM9.out;omega) (by have:=HSZ.out;simp;omega) ?_;intro v2 w2 hown2 hg2;obtain⟨A3,c3,rfl,-,-⟩:=ak hown2)
    have hb2:Below w.heap.size w w2:=(HB5.out.alloc HSZ.out _).grown hg2 (by have:=HSZ.out;simp;omega) (fun q hq=>(HO5.out.lt q hq).1)
    have ho3:=mO hg2 (HO5.out.alloc _) (HT5.out.alloc _) (by decide)
    have HO3:=KO hown2
    have HO4:=KO ho3
    have HB2:=KO hb2
    have hmm:=qH st0 (lp,rp)
    have HGG:=KO (show mu st0< g by rw[hmm]at HMU;have:=HMU.out;dsimp only at this;rw[h1]at this;omega)
    have HVV:=KO (show VebS T (out++[rp]) st0 from⟨by rw[<-HV.out.eq,jJ,h1,wU,Nc],fun q hq=>HV.out.lv q (List.mem_append_left _ hq)⟩)
    clear hown2 hg2 hb2 ho3 hmm i6
    go_wp2_with fail
    go_step3
    refine⟨rfl,HK.out (mu st0) _ _ HGG.out ⟨out++[rp],st0,A3,some ⟨bA,oA,none⟩,m1+1,n,c3,c2,_,_,_,_,_,_,_,_,_,_,_,_,_,_,_,_,_,_,_,_,_,_,_,_,_,_,_,_,_,_,_,_,_,_,_,_,_,_,_,_,_,_,_,_,_,_,_,_,_,_,_,_,_,_,_,_,_,_,_,_,_,_,_,_,_,_,_,rfl,HVV.out,KS _,⟨by rw[HM1.out];simp,HN.out.1.symm⟩,by rw[MR];exact HO3.out,HO4.out,HB2.out⟩⟩
   ·have i6:¬(lp:Int)=1:=by omega
    obtain⟨u,hu⟩:∃u,lp/2=u:=⟨_,rfl⟩
    obtain⟨l,hl⟩:∃l,lp-lp/2=l:=⟨_,rfl⟩
    have hlp:=HN.out.2.2.2
    have HSP:=KO (fun W=>Dv lp u l W (by omega) hlp.2 hu hl)
    have hlay:=oq rp (show 2<=lp by omega)
    have hl2:lp-u=l:=by rw[<-hu];exact hl
    rw[hu,hl2]at hlay
    clear hl2
    have hmu2:=qH st0 (lp,rp)
    dsimp only at hmu2
    have hpl2:2 ^ lp=2 ^ u*2 ^ l:=by rw[<-Mt];congr 1;omega
    obtain⟨P,hP⟩:∃P,2 ^ u=P:=⟨_,rfl⟩
    have hP8:P<=128:=by rw[<-hP];exact dP (by omega)
    have hP0:0< P:=by rw[<-hP];exact MJ u
    obtain⟨L,hL⟩:∃P,2 ^ l=P:=⟨_,rfl⟩
    have hL2:2<=L:=by rw[<-hL];exact KY (by decide) (Lj (n:=2) (i:=1) (by decide) (by omega))
    rw[hP,hL]at hpl2
    obtain⟨RU,hRU⟩:∃x,rp*2 ^ u=x:=⟨_,rfl⟩
    have hin:∀i,i< P->RU+i<=127:=fun i hi=>by
     refine HT.out.1 _ ?_
     rw[<-HV.out.eq,jJ]
     dsimp only
     rw[hlay]
     refine List.mem_append_right _ (List.mem_append_left _ (List.mem_append_right _ ?_))
     rw[List.mem_flatMap]
     exact⟨i,List.mem_range.2 (by rw[hP];exact hi),by rw[<-hRU];exact Gh l _ (by omega)⟩
    have hRU9:=hin (P-1) (by omega)
    have HU:=KO (show u< 64/\rp*2 ^ u=RU/\RU<=1000000/\1*2 ^ u=P/\P<=1000000 from⟨by omega,hRU,by omega,by rw[Mo,hP],by omega⟩)
    have HPP:=KO (KW hP (KW hP8 (KW hP0 (KW hL (KW hL2 (KW hpl2 hRU9))))))
    have HLAY:=KO hlay
    have HMU2:=KO hmu2
    have HLU:=KO (show l≠lp/\1<=u/\u<=7/\1<=l/\l<=7 by omega)
    have HT2:=vw HO2.out (k:=n) (by have:=HN.out;omega) (by have:=HN.out;omega) (ys:=st0.flatMap uU) (by
     have hl:=aQ uU 2 (fun _=>rfl) st0
     rw[L9,HN.out.1]at*
     rw[List.take_append_of_le_length (by omega),KZ (by omega)])
    have hbA:bA< wr.heap.size:=by
     obtain⟨-,h0|⟨g0,cap,cur,hv,h1,h2,-⟩⟩:=HO2.out
     ·have:=h0.2;have:=HN.out;omega
     ·cases hv;exact(Array.getElem?_eq_some_iff.1 h2).1
    obtain⟨W5,hW5⟩:∃W,wr.alloc (.cells #[.int .i64 (lp:Nat),.int .i64 (rp:Nat)] 291)=W:=⟨_,rfl⟩
    have hq:VebN w W5 wr.heap.size (some ⟨bA,oA,none⟩) c2 n (st0.flatMap uU) A1 m1 c1 out lp rp:=by
     rw[<-hW5]
     exact⟨HB.out.alloc HB.out.size _,HT2.alloc _,HO1.out.alloc _,Blk.new _ _ _,fun a ha=>by cases ha;show bA≠wr.heap.size;omega⟩
    obtain⟨gB,hgB⟩:∃x,wr.heap.size=x:=⟨_,rfl⟩
    rw[hgB]at hq
    try rw[hgB]
    try rw[hW5]
    have HQ0:=KO hq
    have b1:W5.cell? ⟨gB,0,none⟩=some (.int .i64 (lp:Nat)):=hq.box.cell 0
    clear HT2 hq hW5 hbA hgB hu hl hlp hlay hmu2 hpl2 hP hP8 hP0 hL hL2 hRU hin hRU9 i1 i3 i4 i5 hcz hw1 d0 d1
    go_wp2_with fail
    refine(HSP.out _).mono ?_
    rintro e w1 ⟨rfl,hw⟩
    rw[hw]
    clear hw w1 b1 i6
    go_wp2_with (refine gz rfl (.const (.int .i64 1)) (.tmp 42) _ rfl 1 u P HU.out.1 rfl rfl HU.out.2.2.2.1 HU.out.2.2.2.2 ?_)
    go_loopw [3,44] (fun o i W=>∃(k m:Nat) (A:Option Addr) (c:Nat),k<=P/\i= .int .i64 k/\o= .slice A m c/\Hid (m=n+k)/\Hid (VebN w W gB A c m ((st0++jT u l rp k).flatMap uU) A1 m1 c1 out lp rp)) (fun _ i _=>P-(intOf i).toNat)
    case atStart=>exact⟨0,n,some ⟨bA,oA,none⟩,c2,K8 _,rfl,rfl,rfl,by show VebN _ _ _ _ _ _ _ _ _ _ _ _ _;rw[show jT u l rp 0=[]from rfl,List.append_nil];exact HQ0.out⟩
    case round=>
     obtain⟨k,m,A,c,hk,rfl,rfl,HMK,HQ⟩:=hrel
     have d1:wr.cell? ⟨gB,1,none⟩=some (.int .i64 (rp:Nat)):=HQ.out.box.cell 1
     by_cases hlt:k< P
     ·have i1:(k:Int)< (P:Int):=by omega
      have hx:=HPP.out.2.2.2.2.2.2
      obtain⟨X1,hX1⟩:∃x,RU+P=x:=⟨_,rfl⟩
      obtain⟨X2,hX2⟩:∃x,X1-1=x:=⟨_,rfl⟩
      obtain⟨V,hV⟩:∃x,X2-k=x:=⟨_,rfl⟩
      have HV9:=KO (show rp*2 ^ u+2 ^ u-1-k=V by rw[HU.out.2.1,HPP.out.1,hX1,hX2,hV])
      have hlw:=oL u l rp k
      rw[HV9.out]at hlw
      have HLS:=KO (show(st0++jT u l rp (k+1)).flatMap uU=(st0++jT u l rp k).flatMap uU++[.int .i64 (l:Nat),.int .i64 (V:Nat)]by rw[hlw,<-Nc,L9];simp[uU,nv])
      have HM8:=KO (show m<=1000 by have:=HMK.out;have:=HN.out;have:=HPP.out;omega)
      have HLN:=KO (show(l:Int)≠(lp:Int)by have:=HLU.out.1;omega)
      have hw9:=aU k (by have:=HPP.out;omega)
      have y1:IntKind.i64.wrap ((RU:Int)+(P:Int))=(X1:Int):=by rw[KU _ (by omega)];omega
      have y2:IntKind.i64.wrap ((X1:Int)-1)=(X2:Int):=by rw[KU _ (by omega)];omega
      have y3:IntKind.i64.wrap ((X2:Int)-(k:Int))=(V:Int):=by rw[KU _ (by omega)];omega
      have HLT:=KO hlt
      have HW9:=KO hw9
      clear hx hX1 hX2 hV hlw hw9 hlt
      go_upto_region 12 with fail
      refine aH (by kernel_rfl) (by kernel_rfl) (fun L a W=>∃(t47 t48 t49 t50 t51 t52 t53 t54 t55 t56 t57 t58 t59 t60 t61 t3:Value) (A61:Option Addr) (c61:Nat),a=⟨#[.int .i64 ((lv:Nat):Int),u1,.slice A1 m1 c1,t3,.pointer (some ⟨gB,0,none⟩),.int .i64 ((u:Nat):Int),.int .i64 ((l:Nat):Int),.int .i64 0,.int .i64 ((k:Nat):Int),u9,u10,u11,.slice (some ⟨bA,oA,none⟩) m2 c2,.int .i64 ((m2:Nat):Int),.bool false,u15,.slice (some ⟨bA,oA,none⟩) m2 c2,.slice (some ⟨bA,oA,none⟩) m2 c2,.int .i64 ((m2:Nat):Int),.int .i64 ((n:Nat):Int),.pointer (some ⟨bA,oA+n*2,none⟩),Value.agg #[.int .i64 ((lp:Nat):Int),.int .i64 ((rp:Nat):Int)],.slice (some ⟨bA,oA,none⟩) m2 c2,.slice (some ⟨bA,oA,none⟩) m2 c2,.int .i64 ((m2:Nat):Int),.int .i64 ((n:Nat):Int),.slice (some ⟨bA,oA,none⟩) n c2,.pointer (some ⟨gB,0,none⟩),.int .i64 ((lp:Nat):Int),.bool false,u30,u31,u32,u33,u34,Value.tuple #[.int .i64 ((u:Nat):Int),.int .i64 ((l:Nat):Int),.int .i64 0],.pointer (some ⟨gB,0,none⟩),.int .i64 ((lp:Nat):Int),Value.tuple #[.int .i64 ((u:Nat):Int),.int .i64 ((l:Nat):Int),.int .i64 0],.int .i64 ((u:Nat):Int),.int .i64 ((l:Nat):Int),.int .i64 0,.int .i64 ((u:Nat):Int),.int .i64 ((P:Nat):Int),.int .i64 ((k:Nat):Int),.bool true,.int .i64 ((k:Nat):Int),t47,t48,t49,t50,t51,t52,t53,t54,t55,t56,t57,t58,t59,t60,t61,u62,u63,u64,u65,u66,u67,u68,u69],[]⟩/\(L 0=true->t47= .slice A m c)/\(L 1=true->t48= .int .i64 (l:Nat))/\(L 2=true->t49= .pointer (some ⟨gB,1,none⟩))/\(L 3=true->t50= .int .i64 (rp:Nat))/\(L 4=true->t51= .int .i64 (u:Nat))/\(L 5=true->t52= .int .i64 (RU:Nat))/\(L 6=true->t53= .int .i64 (u:Nat))/\(L 7=true->t54= .int .i64 (P:Nat))/\(L 8=true->t55= .int .i64 (X1:Nat))/\(L 9=true->t56= .int .i64 (X2:Nat))/\(L 10=true->t57= .int .i64 (k:Nat))/\(L 11=true->t58= .int .i64 (V:Nat))/\(L 12=true->t59= .agg #[.int .i64 (l:Nat),.int .i64 (V:Nat)])/\(L 13=true->t60= .slice (some ⟨wr.heap.size,0,none⟩) 1 1)/\(L 14=true->t61= .slice A61 (m+1) c61)/\(L 15=true->t3= .slice A61 (m+1) c61)/\(L 15=false->t3= .slice A m c)/\(L 3=true->L 2=true)/\(L 5=true->L 3=true/\L 4=true)/\(L 7=true->L 6=true)/\(L 8=true->L 5=true/\L 7=true)/\(L 9=true->L 8=true)/\(L 11=true->L 9=true/\L 10=true)/\(L 12=true->L 1=true/\L 11=true)/\(L 13=true->L 12=true)/\(L 14=true->L 0=true/\L 13=true)/\(L 15=true->L 14=true)/\(L 13=false->W=wr.drew)/\(L 13=true->L 14=false->W=wr.drew.alloc (.cells #[.int .i64 (l:Nat),.int .i64 (V:Nat)] 291))/\(L 14=true->L 15=false->VebN w W gB A61 c61 (m+1) ((st0++jT u l rp (k+1)).flatMap uU) A1 m1 c1 out lp rp)/\(L 15=true->VebN w W gB A61 c61 (m+1) ((st0++jT u l rp (k+1)).flatMap uU) A1 m1 c1 out lp rp)) ?h0 ?hstep ?hend
      case h0=>exact⟨u47,u48,u49,u50,u51,u52,u53,u54,u55,u56,u57,u58,u59,u60,u61,Value.slice A m c,none,0,rfl,fun h=>absurd h KP,fun h=>absurd h KP,fun h=>absurd h KP,fun h=>absurd h KP,fun h=>absurd h KP,fun h=>absurd h KP,fun h=>absurd h KP,fun h=>absurd h KP,fun h=>absurd h KP,fun h=>absurd h KP,fun h=>absurd h KP,fun h=>absurd h KP,fun h=>absurd h KP,fun h=>absurd h KP,fun h=>absurd h KP,fun h=>absurd h KP,fun _=>rfl,fun h=>absurd h KP,fun h=>absurd h KP,fun h=>absurd h KP,fun h=>absurd h KP,fun h=>absurd h KP,fun h=>absurd h KP,fun h=>absurd h KP,fun h=>absurd h KP,fun h=>absurd h KP,fun h=>absurd h KP,fun _=>rfl,fun h _=>absurd h KP,fun h _=>absurd h KP,fun h=>absurd h KP⟩
      case hend=>
       rintro L a W hall ⟨t47,t48,t49,t50,t51,t52,t53,t54,t55,t56,t57,t58,t59,t60,t61,t3,A61,c61,rfl,f0,f1,f2,f3,f4,f5,f6,f7,f8,f9,f10,f11,f12,f13,f14,f15,o15,c3,c5,c7,c8,c9,c11,c12,c13,c14,c15,s12,s13,s14,s15⟩
       obtain rfl:=f15 (hall 15 (by decide))
       have hst:=s15 (hall 15 (by decide))
       clear hall f0 f1 f2 f3 f4 f5 f6 f7 f8 f9 f10 f11 f12 f13 f14 f15 o15 c3 c5 c7 c8 c9 c11 c12 c13 c14 c15 s12 s13 s14 s15
       have HQ2:=KO hst
       clear hst d1
       go_wp2_with fail
       go_roundw
       case rel=>exact⟨k+1,m+1,A61,c61,HLT.out,by rw[HW9.out],rfl,by show _=_;have:=HMK.out;omega,HQ2.out⟩
       case measure=>exact bT _ k HLT.out HW9.out
      case hstep=>
       rintro L a W i o ho hLi hdep ⟨t47,t48,t49,t50,t51,t52,t53,t54,t55,t56,t57,t58,t59,t60,t61,t3,A61,c61,rfl,f0,f1,f2,f3,f4,f5,f6,f7,f8,f9,f10,f11,f12,f13,f14,f15,o15,c3,c5,c7,c8,c9,c11,c12,c13,c14,c15,s12,s13,s14,s15⟩
       have F0:=KO f0
       have F1:=KO f1
       have F2:=KO f2
       have F3:=KO f3
       have F4:=KO f4
       have F5:=KO f5
       have F6:=KO f6
       have F7:=KO f7
       have F8:=KO f8
       have F9:=KO f9
       have F10:=KO f10
       have F11:=KO f11
       have F12:=KO f12
       have F13:=KO f13
       have F14:=KO f14
       have F15:=KO f15
       have O15:=KO o15
       have C3:=KO c3
       have C5:=KO c5
       have C7:=KO c7
       have C8:=KO c8
       have C9:=KO c9
       have C11:=KO c11
       have C12:=KO c12
       have C13:=KO c13
       have C14:=KO c14
       have C15:=KO c15
       have S12:=KO s12
       have S13:=KO s13
       have S14:=KO s14
       have S15:=KO s15
       clear f0 f1 f2 f3 f4 f5 f6 f7 f8 f9 f10 f11 f12 f13 f14 f15 o15 c3 c5 c7 c8 c9 c11 c12 c13 c14 c15 s12 s13 s14 s15
       have HLi:=KO hLi
       clear hLi
       match i,ho with
       |0,ho=>
        obtain rfl:=KQ ho
        clear hdep
        have hz15:L 15=false:=by
         cases h:L 15 with
         |false=>rfl
         |true=>exact absurd ((C14.out (C15.out h)).1) (by rw[HLi.out];exact KP)
        obtain rfl:=O15.out hz15
        refine KT rfl (fun K1 hK1=>?_)
        have hK:=KO hK1
        clear hK1
        go_wp2_with fail
        refine hK.out _ _ ?_;exact eO
       |1,ho=>
        obtain rfl:=KQ ho
        clear hdep
        refine KT rfl (fun K1 hK1=>?_)
        have hK:=KO hK1
        clear hK1
        go_wp2_with fail
        refine hK.out _ _ ?_;exact eO
       |2,ho=>
        obtain rfl:=KQ ho
        clear hdep
        refine KT rfl (fun K1 hK1=>?_)
        have hK:=KO hK1
        clear hK1
        go_wp2_with fail
        refine hK.out _ _ ?_;exact eO
       |3,ho=>
        obtain rfl:=KQ ho
        have hl2:=hdep ⟨2,.data⟩ (by simp) rfl
        obtain rfl:=F2.out hl2
        clear hdep
        have hm0:L 13=false:=by
         cases h:L 13 with
         |false=>rfl
         |true=>exact absurd ((C5.out (C8.out (C9.out (C11.out (C12.out (C13.out h)).2).1)).1).1) (by rw[HLi.out];exact KP)
        have hW:=S12.out hm0
        subst hW
        refine KT rfl (fun K1 hK1=>?_)
        have hK:=KO hK1
        clear hK1
        go_wp2_with fail
        refine hK.out _ _ ?_;exact eO
       |4,ho=>
        obtain rfl:=KQ ho
        clear hdep
        refine KT rfl (fun K1 hK1=>?_)
        have hK:=KO hK1
        clear hK1
        go_wp2_with fail
        refine hK.out _ _ ?_;exact eO
       |5,ho=>
        obtain rfl:=KQ ho
        have hl3:=hdep ⟨3,.data⟩ (by simp) rfl
        obtain rfl:=F3.out hl3
        have hl4:=hdep ⟨4,.data⟩ (by simp) rfl
        obtain rfl:=F4.out hl4
        clear hdep
        refine KT rfl (fun K1 hK1=>?_)
        have hK:=KO hK1
        clear hK1
        refine xG rfl (.tmp 50) (.tmp 51) _ rfl rp u RU HU.out.1 rfl rfl HU.out.2.1 HU.out.2.2.1 ?_
        refine hK.out _ _ ?_;exact eO
       |6,ho=>
        obtain rfl:=KQ ho
        clear hdep
        refine KT rfl (fun K1 hK1=>?_)
        have hK:=KO hK1
        clear hK1
        go_wp2_with fail
        refine hK.out _ _ ?_;exact eO
       |7,ho=>
        obtain rfl:=KQ ho
        have hl6:=hdep ⟨6,.data⟩ (by simp) rfl
        obtain rfl:=F6.out hl6
        clear hdep
        refine KT rfl (fun K1 hK1=>?_)
        have hK:=KO hK1
        clear hK1
        refine xG rfl (.const (.int .i64 1)) (.tmp 53) _ rfl 1 u P HU.out.1 rfl rfl HU.out.2.2.2.1 HU.out.2.2.2.2 ?_
        refine hK.out _ _ ?_;exact eO
       |8,ho=>
        obtain rfl:=KQ ho
        have hl5:=hdep ⟨5,.data⟩ (by simp) rfl
        obtain rfl:=F5.out hl5
        have hl7:=hdep ⟨7,.data⟩ (by simp) rfl
        obtain rfl:=F7.out hl7
        clear hdep
        refine KT rfl (fun K1 hK1=>?_)
        have hK:=KO hK1
        clear hK1
        go_wp2_with fail
        refine hK.out _ _ ?_;exact eO
       |9,ho=>
        obtain rfl:=KQ ho
        have hl8:=hdep ⟨8,.data⟩ (by simp) rfl
        obtain rfl:=F8.out hl8
        clear hdep
        refine KT rfl (fun K1 hK1=>?_)
        have hK:=KO hK1
        clear hK1
        go_wp2_with fail
        refine hK.out _ _ ?_;exact eO
       |10,ho=>
        obtain rfl:=KQ ho
        clear hdep
        refine KT rfl (fun K1 hK1=>?_)
        have hK:=KO hK1
        clear hK1
        go_wp2_with fail
        refine hK.out _ _ ?_;exact eO
       |11,ho=>
        obtain rfl:=KQ ho
        have hl9:=hdep ⟨9,.data⟩ (by simp) rfl
        obtain rfl:=F9.out hl9
        have hl10:=hdep ⟨10,.data⟩ (by simp) rfl
        obtain rfl:=F10.out hl10
        clear hdep
        refine KT rfl (fun K1 hK1=>?_)
        have hK:=KO hK1
        clear hK1
        go_wp2_with fail
        refine hK.out _ _ ?_;exact eO
       |12,ho=>
        obtain rfl:=KQ ho
        have hl1:=hdep ⟨1,.data⟩ (by simp) rfl
        obtain rfl:=F1.out hl1
        have hl11:=hdep ⟨11,.data⟩ (by simp) rfl
        obtain rfl:=F11.out hl11
        clear hdep
        refine KT rfl (fun K1 hK1=>?_)
        have hK:=KO hK1
        clear hK1
        go_wp2_with fail
        refine hK.out _ _ ?_;exact eO
       |13,ho=>
        obtain rfl:=KQ ho
        have hl12:=hdep ⟨12,.data⟩ (by simp) rfl
        obtain rfl:=F12.out hl12
        clear hdep
        have hst:=S12.out HLi.out
        refine KT rfl (fun K1 hK1=>?_)
        have hK:=KO hK1
        clear hK1
        subst hst
        go_wp2_with fail
        refine hK.out _ _ ?_;exact eO
       |14,ho=>
        obtain rfl:=KQ ho
        have hl0:=hdep ⟨0,.data⟩ (by simp) rfl
        obtain rfl:=F0.out hl0
        have hl13:=hdep ⟨13,.data⟩ (by simp) rfl
        obtain rfl:=F13.out hl13
        clear hdep
        have hst:=S13.out hl13 HLi.out
        refine KT rfl (fun K1 hK1=>?_)
        have hK:=KO hK1
        clear hK1
        subst hst
        refine dS _ rfl (.tmp 47) (.tmp 60) 292 rfl w.heap.size 291 tp _ 2 16 underlying292 HPI.out.1 HPI.out.2.1 HPI.out.2.2.1 HPI.out.2.2.2 rfl (by omega) (.slice A m c) m _ rfl ((HQ.out.row.drew).alloc _) (some ⟨wr.heap.size,0,none⟩) 1 1 [.int .i64 (l:Nat),.int .i64 (V:Nat)] rfl ((Blk.new wr.drew _ _).sl 0 _ (by intro j u hu;simpa using hu)) (by rfl) (by simp[K5]) (by unfold maxLen;have:=HM8.out;omega) (by have:=HM8.out;omega) (KY HQ.out.bel.size (by rw[KX];exact Mm _)) ?_
        intro v2 W1 hown2 hg2
        obtain⟨A9,c9,rfl,-,-⟩:=ak hown2
        have hnew:=HQ.out.push hg2 hown2 HLN.out rfl
        rw[<-HLS.out]at hnew
        refine hK.out _ _ ?_;exact eO
       |15,ho=>
        obtain rfl:=KQ ho
        have hl14:=hdep ⟨14,.data⟩ (by simp) rfl
        obtain rfl:=F14.out hl14
        clear hdep
        have hst:=S14.out hl14 HLi.out
        refine KT rfl (fun K1 hK1=>?_)
        have hK:=KO hK1
        clear hK1
        go_wp2_with fail
        refine hK.out _ _ ?_;exact eO
     ·have hkP:k=P:=by omega
      have i1:¬(k:Int)< (P:Int):=by omega
      have HMK2:=KO (show m=n+P by have:=HMK.out;omega)
      have hq:=HQ.out
      rw[hkP]at hq
      have HQ3:=KO hq
      have HM8:=KO (show m<=1000 by have:=HMK.out;have:=HN.out;have:=HPP.out;omega)
      have HSZ:=KO hq.bel.size
      clear hq hkP hlt hk
      go_wp2_with (at_builtin;refine ag _ rfl (.tmp 63) (.tmp 68) _ rfl w.heap.size 291 tp _ 2 16 underlying292 HPI.out.1 HPI.out.2.1 HPI.out.2.2.1 HPI.out.2.2.2 rfl (by omega) (.slice A m c) _ _ rfl (HQ3.out.row.alloc _) _ 1 _ [.int .i64 (u:Nat),.int .i64 (rp:Nat)] rfl ((Blk.new _ _ _).sl 0 _ (by intro j u hu;simpa using hu)) (by simp) (by simp[K5]) (by unfold maxLen;have:=HM8.out;omega) (by have:=HM8.out;omega) (by have:=HSZ.out;simp;omega) ?_;intro v2 w2 hown2 hg2;obtain⟨A9,c9,rfl,-,-⟩:=ak hown2)
      have hb2:Below w.heap.size w w2:=(HQ3.out.bel.alloc HSZ.out _).grown hg2 (by have:=HSZ.out;simp;omega) (fun q hq=>(HQ3.out.row.lt q hq).1)
      have ho3:=mO hg2 (HQ3.out.row.alloc _) (HQ3.out.out.alloc _) (by decide)
      have HO3:=KO hown2
      have HO4:=KO ho3
      have HB2:=KO hb2
      obtain⟨hP,hP8,hP0,hL,hL2,hpl2,-⟩:=HPP.out
      have HVV:=KO (show VebS T out (st0++jT u l rp P++[(u,rp)])from⟨by
       rw[jJ,E9,<-HV.out.eq,jJ]
       dsimp only
       rw[HLAY.out,vv u l rp P (by rw[hP];exact KS _),hP,Nat.sub_self,<-List.range_eq_range',Nc],fun q hq=>by
       have hlu:=HLU.out
       rcases List.mem_append.1 hq with hq|hq
       ·rcases List.mem_append.1 hq with hq|hq
        ·exact HV.out.lv q (List.mem_append_left _ hq)
        ·unfold jT at hq
         obtain⟨i,-,rfl⟩:=List.mem_map.1 hq
         exact⟨hlu.2.2.2.1,hlu.2.2.2.2⟩
       ·rw[List.mem_singleton]at hq
        subst hq
        exact⟨hlu.2.1,hlu.2.2.1⟩⟩)
      have HGG:=KO (show mu (st0++jT u l rp P++[(u,rp)])< g by
       rw[qH,JP,BK]
       dsimp only
       have h1:=HMU.out
       rw[HMU2.out,hpl2]at h1
       rw[hP,hL]
       have h2:P*(2*(L-1)-1)=2*(P*L)-3*P:=by
        obtain⟨x,rfl⟩:∃x,L=x+2:=⟨L-2,by omega⟩
        rw[show 2*(x+2-1)-1=2*x+1 by omega,Nat.mul_add,Nat.mul_add,Nat.mul_one,<-Mc,Nat.mul_comm P 2,Mc]
        omega
       have h3:P*2<=P*L:=ME _ hL2
       have hP2:2<=P:=by rw[<-hP];exact KY (by decide) (Lj (n:=2) (i:=1) (by decide) HLU.out.2.1)
       rw[h2]
       omega)
      have HLEN:=KO (show m+1=(st0++jT u l rp P++[(u,rp)]).length by rw[List.length_append,List.length_append,HN.out.1];unfold jT;simp;have:=HMK2.out;omega)
      clear hown2 hg2 hb2 ho3 hP hP8 hP0 hL hL2 hpl2 i1 d1
      go_wp2_with fail
      go_step3
      refine⟨rfl,HK.out _ _ _ HGG.out ⟨out,st0++jT u l rp P++[(u,rp)],A1,A9,m1,m+1,c1,c9,_,_,_,_,_,_,_,_,_,_,_,_,_,_,_,_,_,_,_,_,_,_,_,_,_,_,_,_,_,_,_,_,_,_,_,_,_,_,_,_,_,_,_,_,_,_,_,_,_,_,_,_,_,_,_,_,_,_,_,_,_,_,_,_,_,_,_,rfl,HVV.out,KS _,⟨HM1.out,HLEN.out⟩,HO4.out,by rw[L9];simpa[uU,nv]using HO3.out,HB2.out⟩⟩
def tL (l:List Nat) (N:Nat):Nat->List Nat
 |0=>List.replicate N 0
 |k+1=>(tL l N k).set (l.getD k 0-1) k
theorem jW (l:List Nat) (N:Nat):∀k,(tL l N k).length=N
 |0=>by simp[tL]
 |k+1=>by rw[tL,List.length_set,jW l N k]
def gV (lv:Nat):List Nat:=tL (bS lv 1) (2 ^ lv-1) (2 ^ lv-1)
theorem FP (l:List Nat) (x k:Nat):(l.map nv).toArray.setIfInBounds x (nv k)=((l.set x k).map nv).toArray:=by
 simp[List.map_set]
theorem rM {w:World} {g B n:Nat} {e:TypeId} {l:List Value} (h:Blk w g e l.toArray) (hl:l.length=n) (hB:B<=g) (hn:n<=1000000):w.ownsRow B e 1 (.slice (some ⟨g,0,none⟩) n n) n l:=
 ⟨by omega,.inr ⟨g,n,_,rfl,hB,h,KS _,by unfold maxLen;omega,by simp[hl],by rw[Nat.mul_one];show List.take n l=l;rw[KZ (by omega)]⟩⟩
structure LayP (l:List Nat) (N:Nat):Prop where
 len:l.length=N
 le:N<=127
 at1:∀k (h:k< l.length),1<=l[k]'h/\l[k]'h<=N
theorem BI (lv:Nat) (h1:1<=lv) (h7:lv<=7):LayP (bS lv 1) (2 ^ lv-1):=by
 have hle:=AC lv h7 h1
 have hp:=dP h7
 refine⟨gQ lv 1 h1,by omega,fun k h=>?_⟩
 rw[MC]at hle
 have:=hle _ (List.getElem_mem h)
 simpa using this
theorem xZ (l:List Nat) (N:Nat):madeCells #[.int .i64 0] (N*1)=((tL l N 0).map nv).toArray:=by
 apply Array.ext
 ·simp[madeCells,tL]
 ·intro i h1 h2
  simp[madeCells,tL,nv,Nat.mod_one]
theorem Eo (lv N:Nat) (w:World) (h1:1<=lv) (h7:lv<=7) (hN:2 ^ lv-1=N):Calls prog 244 #[.int .i64 (lv:Nat)] w fun r w'=>∃A c,r= .returned (.tuple #[.slice A N c,.int .i64 0])/\w'.ownsRow w.heap.size 3 1 (.slice A N c) N ((gV lv).map nv)/\Below w.heap.size w w':=by
 have hls:=BI lv h1 h7
 have hpc:gV lv=tL (bS lv 1) N N:=by unfold gV;rw[hN]
 rw[hpc]
 have HSZ:=KO (fun W=>D6 lv N W h1 h7 hN)
 have hlv:=fun W=>Dh lv W h1 h7
 obtain⟨l,hl⟩:∃l,bS lv 1=l:=⟨_,rfl⟩
 rw[hN,hl]at hls
 rw[hl]at hlv ⊢
 have hN9:=hls.le
 rw[hls.len]at hlv
 have HLV:=KO hlv
 have HLS:=KO hls
 obtain⟨i0,hi,hz0,hz1,hz2⟩:=LU jQ
 have hmk:=fun W=>aW (P:=prog) 27 3 i0 (.int .i64 0) underlying27 hi hz0 N (by rw[hz2];omega) (by omega) W
 rw[hz1]at hmk
 clear hi hz0 hz1 hz2 h1 h7 hN hl hls hlv hpc
 go_enter func244,ntmps244
 go_wp2_with fail
 refine(HSZ.out _).mono ?_
 rintro e w1 ⟨rfl,hw⟩
 rw[hw]
 clear hw w1
 go_wp2_with fail
 obtain⟨W0,hW0⟩:∃W0,w.alloc (Obj.cells (madeCells #[.int .i64 0] (N*1)) 3)=W0:=⟨_,rfl⟩
 have hb0:Below w.heap.size w W0:=by rw[<-hW0];exact(KR _ _).alloc (KS _) _
 have b0:Blk W0 w.heap.size 3 ((tL l N 0).map nv).toArray:=by
  rw[<-hW0]
  have:=Blk.new w 3 (madeCells #[.int .i64 0] (N*1))
  rw[xZ l N]at this ⊢
  exact this
 try rw[Nat.mul_one]at hW0
 try rw[hW0]
 have HB0:=KO hb0
 have HSZ0:=KO hb0.size
 clear hW0 hb0 hmk
 obtain⟨g,hg⟩:∃g,w.heap.size=g:=⟨_,rfl⟩
 rw[hg]at b0
 have HG:=KO hg
 try rw[hg]
 refine(HLV.out _).mono ?_
 rintro e w2 ⟨A,c,rfl,ho,hb2⟩
 have HSL:=KO (aA ho)
 have HAB:=KO (show∀a,A=some a->g< a.block from fun a ha=>Nat.lt_of_lt_of_le b0.lt (kU ho a ha))
 have HB2:=KO (aa HB0.out hb2)
 have hg2:=b0.below hb2 b0.lt
 have HK2:=KO hg2
 clear ho hb2 b0 hg2 hg
 go_wp2_with fail
 go_loopw [22] (fun e W=>∃k:Nat,k<=N/\e= .int .i64 k/\Hid (Blk W g 3 ((tL l N k).map nv).toArray)/\Hid (Mod (fun b=>b=g) w2 W)) (fun e _=>N-(intOf e).toNat)
 case atStart=>exact⟨0,K8 _,rfl,HK2.out,Mod.refl _ _⟩
 case round=>
  obtain⟨k,hk,rfl,hbk,hmd⟩:=hrel
  by_cases hlt:k< N
  ·have i1:(k:Int)< (N:Int):=by omega
   have i2:(0:Int)<=(k:Int):=by omega
   have hkl:k< l.length:=by rw[HLS.out.len];exact hlt
   obtain⟨b1,o1,e1,hbl1,d1⟩:=HSL.out.one k hkl
   obtain⟨x,hx⟩:∃x,l[k]'hkl=x:=⟨_,rfl⟩
   have hx1:=HLS.out.at1 k hkl
   rw[hx]at d1 hx1
   subst e1
   have hne:b1≠g:=by have:=HAB.out _ rfl;simp at this;omega
   have d2:wr.cell? ⟨b1,o1+k,none⟩=some (.int .i64 (x:Nat)):=(hmd.out.cell (p:=⟨b1,o1+k,none⟩) hbl1 hne).trans d1
   obtain⟨x1,hxx⟩:∃y,x-1=y:=⟨_,rfl⟩
   have hx1N:x1< N:=by omega
   have hcl:x1< ((tL l N k).map nv).toArray.size:=by simp[jW];exact hx1N
   obtain⟨vx,hcx⟩:∃v,wr.cell? ⟨g,x1,none⟩=some v:=⟨_,(hbk.out.cell x1).trans (Array.getElem?_eq_getElem hcl)⟩
   have hfx:wr.frozen? ⟨g,x1,none⟩=false:=hbk.out.frozen x1
   have j1:(0:Int)<=(x1:Int):=by omega
   have j2:(x1:Int)< (N:Int):=by omega
   have HST:=KO (show((tL l N (k+1)).map nv).toArray=((tL l N k).map nv).toArray.setIfInBounds x1 (nv k)by
    rw[FP,tL,Lf,K7 hkl,hx]
    simp only[Option.getD_some,hxx])
   have HLT:=KO hlt
   have hw3:=aU k (by have:=HLS.out.le;omega)
   have hw1:IntKind.i64.wrap ((x:Int)-1)=(x1:Int):=by rw[KU _ (by have:=HLS.out.le;omega)];omega
   have HW3:=KO hw3
   clear hkl hbl1 d1 hx hx1 hne hxx hx1N hcl hlt hw3
   go_wp2_with fail
   go_roundw
   case rel=>exact⟨k+1,HLT.out,by first|rw[HW3.out]|rfl,by show Blk _ _ _ _;rw[HST.out];exact hbk.out.set_ x1 _,hmd.out.setCell (p:=⟨g,x1,none⟩) rfl _⟩
   case measure=>first|exact bT _ k HLT.out HW3.out|(have:=HLT.out;simp[intOf];omega)
  ·obtain rfl:k=N:=by omega
   have i1:¬(k:Int)< (k:Int):=by omega
   have HO:=KO (rM (B:=w.heap.size) (n:=k) hbk.out (by simp[jW]) (by rw[HG.out];exact KS _) (by have:=HLS.out.le;omega))
   have HBE:=KO (show Below w.heap.size w wr from HB2.out.trans (hmd.out.below HB2.out.size (fun b hb=>by have hb:b=g:=hb;rw[HG.out];omega)))
   clear hlt hk
   go_wp2_with fail
   refine KV (v:= .tuple #[.slice (some ⟨g,0,none⟩) k k,.int .i64 0]) (by simp[results,results244,go_sem]) rfl ?_
   exact⟨_,_,rfl,HO.out,HBE.out⟩
theorem Ba:∀(lv r:Nat) (w:World),1<=lv->lv<=7->(r+1)*2 ^ (lv-1)<=128->Calls prog 155 #[.int .i64 (lv:Nat),.int .i64 (r:Nat)] w (iX 3 ((bS lv r).map nv) (bS lv r).length w):=by
 intro lv
 induction lv using Ng with
 |_ lv ih=>
 intro r w h1 h7 hr
 by_cases hlv:lv=1
 ·subst hlv
  have i1:((1:Nat):Int)=1:=rfl
  have hb:Below w.heap.size w (w.alloc (.cells #[.int .i64 (r:Nat)] 3)):=(KR _ _).alloc (KS _) _
  have ho:(w.alloc (.cells #[.int .i64 (r:Nat)] 3)).ownsRow w.heap.size 3 1 (.slice (some ⟨w.heap.size,0,none⟩) 1 1) 1 ([r].map nv):=rM (Blk.new w _ _) rfl (KS _) (by omega)
  have HB:=KO hb
  have HO:=KO ho
  clear hb ho ih
  go_enter func155,ntmps155
  go_wp2_with fail
  go_ret
  exact⟨_,_,rfl,HO.out,HB.out⟩
 ·obtain⟨u,hu⟩:∃u,lv/2=u:=⟨_,rfl⟩
  obtain⟨l,hl⟩:∃l,lv-u=l:=⟨_,rfl⟩
  have hlay:=oq r (show 2<=lv by omega)
  rw[hu,hl]at hlay
  rw[hlay]
  obtain⟨P,hP⟩:∃P,2 ^ u=P:=⟨_,rfl⟩
  have hP8:P<=128:=by rw[<-hP];exact dP (by omega)
  have hP0:0< P:=by rw[<-hP];exact MJ u
  have hpp:2 ^ (lv-1)=P*2 ^ (l-1):=by rw[<-hP,<-Mt];congr 1;omega
  have hl0:=MJ (l-1)
  have hPr:(r+1)*P<=128:=by
   rw[hpp,<-Mc]at hr
   exact KY (Nat.le_mul_of_pos_right _ hl0) hr
  have H1:=KO (fun W=>ih u (by omega) r W (by omega) (by omega) (KY (ME _ (Lj (n:=2) (by decide) (show u-1<=lv-1 by omega))) hr))
  have H2:=KO (fun W i (hi:i< P)=>ih l (by omega) (r*P+i) W (by omega) (by omega) (by
   refine KY (LH _ (show r*P+i+1<=(r+1)*P by rw[ML,Mo];omega)) ?_
   rw[Mc,<-hpp];exact hr))
  have HPO:=KO (show∀W,Calls prog 154 #[.int .i64 (u:Nat)] W (fun r' w'=>r'= .returned (.int .i64 (P:Nat))/\w'=W)from fun W=>by have:=jO u W (by omega);rw[hP]at this;exact this)
  rw[hP]
  obtain⟨RP,hRP⟩:∃x,r*P=x:=⟨_,rfl⟩
  rw[hRP]at H2 ⊢
  have hRP9:RP+P<=128:=by rw[ML,Mo,hRP]at hPr;exact hPr
  have i1:¬(lv:Int)=1:=by omega
  have hlen:∀i,i< P->(bS l (RP+i)).length<=127:=fun i hi=>by rw[gQ _ _ (by omega)];have:=dP (show l<=7 by omega);omega
  have hlenu:(bS u r).length<=127:=by rw[gQ _ _ (by omega)];have:=dP (show u<=7 by omega);omega
  have HLEN:=KO (KW hlen (KW hlenu (KW hP8 (KW hP0 hRP9))))
  obtain⟨i0,hi,hz0,hz1,hz2⟩:=LU jQ
  have HII:=KO (KW hi (KW hz0 (KW hz1 hz2)))
  have j3:(lv:Int)/2=(u:Int):=by omega
  have j5:(lv:Int).tdiv 2=(u:Int):=by rw[M4 (by omega)];omega
  have y3:IntKind.i64.wrap (r*(P:Int))=(RP:Int):=by rw[show(r:Int)*(P:Int)=(RP:Int)by rw[<-hRP,Int.natCast_mul]];exact KU _ (by omega)
  have y2:IntKind.i64.wrap ((lv:Int)-(u:Int))=(l:Int):=by rw[KU _ (by omega)];omega
  have y1:IntKind.i64.wrap (u:Int)=(u:Int):=KU _ (by omega)
  clear hi hz0 hz1 hz2 hu hl hlay hP hP8 hP0 hpp hl0 hPr hRP hRP9 hlen hlenu ih h1 h7 hr hlv
  go_enter func155,ntmps155
  go_wp2_with fail
  refine(H1.out _).mono ?_
  rintro e w1 ⟨A6,c6,rfl,ho6,hb1⟩
  have HO6:=KO ho6
  have HB1:=KO hb1
  clear ho6 hb1
  go_wp2_with fail
  go_loopw [6,7] (fun o i W=>∃(k m:Nat) (A:Option Addr) (c:Nat),k<=P/\i= .int .i64 k/\o= .slice A m c/\Hid (m=(bS u r++(Lt k).flatMap fun i=>bS l (RP+i)).length)/\Hid (W.ownsRow w.heap.size 3 1 (.slice A m c) m ((bS u r++(Lt k).flatMap fun i=>bS l (RP+i)).map nv))/\Hid (Below w.heap.size w W)/\Hid (m<=127+127*k)) (fun _ i _=>P-(intOf i).toNat)
  case atStart=>exact⟨0,_,A6,c6,K8 _,rfl,rfl,by show _=_;simp,by show World.ownsRow _ _ _ _ _ _ _;simpa using HO6.out,HB1.out,HLEN.out.2.1⟩
  case round=>
   obtain⟨k,m,A,c,hk,rfl,rfl,hm,hor,hbr,hml⟩:=hrel
   go_wp2_with fail
   refine(HPO.out _).mono ?_
   rintro e w2 ⟨rfl,hw⟩
   rw[hw]
   clear hw w2
   by_cases hlt:k< P
   ·have hkP:=hlt
    have HK:=KO (show m<=20000 by have:=hml.out;have:=HLEN.out;omega)
    have i2:(k:Int)< (P:Int):=by omega
    have y4:IntKind.i64.wrap ((RP:Int)+(k:Int))=((RP+k:Nat):Int):=by rw[KU _ (by have:=HLEN.out;omega)];omega
    have hll:=HLEN.out.1 k hlt
    have hst:(bS u r++(Lt (k+1)).flatMap fun i=>bS l (RP+i))=(bS u r++(Lt k).flatMap fun i=>bS l (RP+i))++bS l (RP+k):=by rw[List.range_succ,L9,Nc];simp
    have HST:=KO hst
    have HC:=KO (fun W=>H2.out W k hlt)
    obtain⟨R1,hR1⟩:∃x,RP+k=x:=⟨_,rfl⟩
    rw[hR1]at y4 hll HST HC
    have HLL:=KO hll
    have HLT:=KO hlt
    have hw3:=aU k (by have:=HLEN.out;omega)
    have HW3:=KO hw3
    clear hkP hll hst hR1 hlt hw3
    go_wp2_with fail
    refine(HPO.out _).mono ?_
    rintro e w2 ⟨rfl,hw⟩
    rw[hw]
    clear hw w2
    go_wp2_with fail
    refine(HC.out _).mono ?_
    rintro e w3 ⟨A9,c9,rfl,ho9,hb9⟩
    have HS9:=KO (aA ho9)
    have HB9:=KO (aa hbr.out hb9)
    have HOR:=KO (own_below hor.out hb9)
    have HSZ:=KO HB9.out.size
    clear ho9 hb9 i2 y4
    go_wp2_with (at_builtin;refine ag _ rfl (.tmp 23) (.tmp 33) _ rfl w.heap.size 3 i0 _ 1 8 underlying27 HII.out.1 HII.out.2.1 HII.out.2.2.1 HII.out.2.2.2 rfl (by omega) (.slice A m c) _ _ rfl HOR.out A9 _ _ ((bS l R1).map nv) rfl HS9.out (by simp) (by intro u hu;obtain⟨x,-,rfl⟩:=List.mem_map.1 hu;rfl) (by unfold maxLen;have:=HK.out;have:=HLL.out;omega) (by have:=HK.out;have:=HLL.out;omega) HSZ.out ?_;intro v2 w4 hown2 hg2;obtain⟨A7,c7,rfl,-,-⟩:=ak hown2)
    have hb4:=HB9.out.grown hg2 HSZ.out (fun q hq=>(HOR.out.lt q hq).1)
    rw[<-MR,<-HST.out]at hown2
    have HO4:=KO hown2
    have HB4:=KO hb4
    have HM4:=KO (show m+(bS l R1).length=(bS u r++(Lt (k+1)).flatMap fun i=>bS l (RP+i)).length by rw[HST.out,List.length_append,<-hm.out])
    have HM5:=KO (show m+(bS l R1).length<=127+127*(k+1)by have:=hml.out;have:=HLL.out;omega)
    clear hown2 hg2 hb4
    go_wp2_with fail
    go_roundw
    case rel=>exact⟨k+1,_,A7,c7,HLT.out,by rw[HW3.out],rfl,HM4.out,HO4.out,HB4.out,HM5.out⟩
    case measure=>exact bT _ k HLT.out HW3.out
   ·obtain rfl:k=P:=by omega
    have i2:¬(k:Int)< (k:Int):=by omega
    clear hlt hk
    go_wp2_with fail
    go_ret
    exact⟨A,c,by rw[<-hm.out];rfl,by rw[<-hm.out];exact hor.out,hbr.out⟩
theorem vJ (lv N:Nat) (w:World) (h1:1<=lv) (h7:lv<=7) (hN:2 ^ lv-1=N):Calls prog 135 #[.int .i64 (lv:Nat)] w (iX 3 ((gV lv).map nv) N w):=by
 have hls:=BI lv h1 h7
 have hpc:gV lv=tL (bS lv 1) N N:=by unfold gV;rw[hN]
 rw[hpc]
 have HSZ:=KO (fun W=>sS lv N W h7 hN)
 have hlv:=fun W=>Ba lv 1 W h1 h7 (by
   have:2 ^ lv<=128:=dP h7;have h2:2 ^ lv=2 ^ (lv-1)*2:=by rw[<-Nat.pow_succ];congr 1;omega
   omega)
 obtain⟨l,hl⟩:∃l,bS lv 1=l:=⟨_,rfl⟩
 rw[hN,hl]at hls
 rw[hl]at hlv ⊢
 have hN9:=hls.le
 rw[hls.len]at hlv
 have HLV:=KO hlv
 have HLS:=KO hls
 obtain⟨i0,hi,hz0,hz1,hz2⟩:=LU jQ
 have hmk:=fun W=>aW (P:=prog) 27 3 i0 (.int .i64 0) underlying27 hi hz0 N (by rw[hz2];omega) (by omega) W
 rw[hz1]at hmk
 clear hi hz0 hz1 hz2 h1 h7 hN hl hls hlv hpc
 go_enter func135,ntmps135
 go_wp2_with fail
 refine(HSZ.out _).mono ?_
 rintro e w1 ⟨rfl,hw⟩
 rw[hw]
 clear hw w1
 go_wp2_with fail
 obtain⟨W0,hW0⟩:∃W0,w.alloc (Obj.cells (madeCells #[.int .i64 0] (N*1)) 3)=W0:=⟨_,rfl⟩
 have hb0:Below w.heap.size w W0:=by rw[<-hW0];exact(KR _ _).alloc (KS _) _
 have b0:Blk W0 w.heap.size 3 ((tL l N 0).map nv).toArray:=by
  rw[<-hW0]
  have:=Blk.new w 3 (madeCells #[.int .i64 0] (N*1))
  rw[xZ l N]at this ⊢
  exact this
 try rw[Nat.mul_one]at hW0
 try rw[hW0]
 have HB0:=KO hb0
 clear hW0 hb0 hmk
 obtain⟨g,hg⟩:∃g,w.heap.size=g:=⟨_,rfl⟩
 rw[hg]at b0
 have HG:=KO hg
 try rw[hg]
 refine(HLV.out _).mono ?_
 rintro e w2 ⟨A,c,rfl,ho,hb2⟩
 have HSL:=KO (aA ho)
 have HAB:=KO (show∀a,A=some a->g< a.block from fun a ha=>Nat.lt_of_lt_of_le b0.lt (kU ho a ha))
 have HB2:=KO (aa HB0.out hb2)
 have hg2:=b0.below hb2 b0.lt
 have HK2:=KO hg2
 clear ho hb2 b0 hg2 hg
 go_wp2_with fail
 go_loopw [5] (fun e W=>∃k:Nat,k<=N/\e= .int .i64 k/\Hid (Blk W g 3 ((tL l N k).map nv).toArray)/\Hid (Mod (fun b=>b=g) w2 W)) (fun e _=>N-(intOf e).toNat)
 case atStart=>exact⟨0,K8 _,rfl,HK2.out,Mod.refl _ _⟩
 case round=>
  obtain⟨k,hk,rfl,hbk,hmd⟩:=hrel
  by_cases hlt:k< N
  ·have i1:(k:Int)< (N:Int):=by omega
   have i2:(0:Int)<=(k:Int):=by omega
   have hkl:k< l.length:=by rw[HLS.out.len];exact hlt
   obtain⟨b1,o1,e1,hbl1,d1⟩:=HSL.out.one k hkl
   obtain⟨x,hx⟩:∃x,l[k]'hkl=x:=⟨_,rfl⟩
   have hx1:=HLS.out.at1 k hkl
   rw[hx]at d1 hx1
   subst e1
   have hne:b1≠g:=by have:=HAB.out _ rfl;simp at this;omega
   have d2:wr.cell? ⟨b1,o1+k,none⟩=some (.int .i64 (x:Nat)):=(hmd.out.cell (p:=⟨b1,o1+k,none⟩) hbl1 hne).trans d1
   obtain⟨x1,hxx⟩:∃y,x-1=y:=⟨_,rfl⟩
   have hx1N:x1< N:=by omega
   have hcl:x1< ((tL l N k).map nv).toArray.size:=by simp[jW];exact hx1N
   obtain⟨vx,hcx⟩:∃v,wr.cell? ⟨g,x1,none⟩=some v:=⟨_,(hbk.out.cell x1).trans (Array.getElem?_eq_getElem hcl)⟩
   have hfx:wr.frozen? ⟨g,x1,none⟩=false:=hbk.out.frozen x1
   have j1:(0:Int)<=(x1:Int):=by omega
   have j2:(x1:Int)< (N:Int):=by omega
   have HST:=KO (show((tL l N (k+1)).map nv).toArray=((tL l N k).map nv).toArray.setIfInBounds x1 (nv k)by
    rw[FP,tL,Lf,K7 hkl,hx]
    simp only[Option.getD_some,hxx])
   have HLT:=KO hlt
   have hw3:=aU k (by have:=HLS.out.le;omega)
   have hw1:IntKind.i64.wrap ((x:Int)-1)=(x1:Int):=by rw[KU _ (by have:=HLS.out.le;omega)];omega
   have HW3:=KO hw3
   clear hkl hbl1 d1 hx hx1 hne hxx hx1N hcl hlt hw3
   go_wp2_with fail
   go_roundw
   case rel=>exact⟨k+1,HLT.out,by first|rw[HW3.out]|rfl,by show Blk _ _ _ _;rw[HST.out];exact hbk.out.set_ x1 _,hmd.out.setCell (p:=⟨g,x1,none⟩) rfl _⟩
   case measure=>first|exact bT _ k HLT.out HW3.out|(have:=HLT.out;simp[intOf];omega)
  ·obtain rfl:k=N:=by omega
   have i1:¬(k:Int)< (k:Int):=by omega
   have HO:=KO (rM (B:=w.heap.size) (n:=k) hbk.out (by simp[jW]) (by rw[HG.out];exact KS _) (by have:=HLS.out.le;omega))
   have HBE:=KO (show Below w.heap.size w wr from HB2.out.trans (hmd.out.below HB2.out.size (fun b hb=>by have hb:b=g:=hb;rw[HG.out];omega)))
   clear hlt hk
   go_wp2_with fail
   go_ret
   exact⟨_,_,rfl,HO.out,HBE.out⟩
end Go.Proofs.YtpbmbjjfdpkhbaaGreat
