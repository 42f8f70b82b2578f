/- part of the proof -/
import Derived.Test.YtpbmbjjfdpkhbaaGreatZq9
import Derived.Test.YtpbmbjjfdpkhbaaGreatZq1
import Derived.Test.YtpbmbjjfdpkhbaaGreatZq4
import Derived.Test.YtpbmbjjfdpkhbaaGreatZq3
import Derived.Deep.RegionWith
import Derived.Test.YtpbmbjjfdpkhbaaGreatZq7
import Derived.Test.YtpbmbjjfdpkhbaaGreatZq5
import Derived.Deep.MidRow
import Derived.Deep.CutRange
namespace Go.Proofs.YtpbmbjjfdpkhbaaGreat
open Go Go.RowKit
set_option linter.all false
set_option maxRecDepth 100000
set_option maxHeartbeats 32000000
open Go.Proofs.Tryz
open Below renaming refl->Lg
open Bool renaming false_ne_true->Ld
open Go renaming all_oneCell_toArray->LH,bodyPost_ret->Li,info_parts->Mr,wpList_load_mid->LK,wpOp_step->Lj
open Go.IntWalk renaming i64_in->Lh
open Go.Lib renaming hid->Lc
open Go.World renaming ownsRow_made->Nc,ownsRow_nil->L6,size_alloc->Ls
open List renaming getElem?_cons_succ->Ll,getElem?_cons_zero->Lm,getElem?_eq_none->MG,getElem?_take->Ni,getElem?_toArray->LB,getElem_mem->LP,nil_append->Ml
open Nat renaming le_refl->Lf,le_succ->MK,le_trans->Lt,zero_add->MZ,zero_le->LC
open Option.some renaming inj->Le
theorem Jo {Rs:List Rm} (h:May (aB Rs)):(∀r∈Rs,r.l.length<=65536)/\Rs.length<=17/\(Rs.map (fun r=>r.l.length)).sum<=65536:=by
 have h1:=h.size
 have h2:=h.len
 rw[dw]at h2
 have h3:(Rs.map (fun r=>r.l.length)).sum=tot (aB Rs):=by unfold tot aB;rw[List.map_map];rfl
 refine⟨fun r hr=>?_,h2,by omega⟩
 have h4:=Am (List.mem_map.2 ⟨r,hr,rfl⟩:r.l.length∈Rs.map (fun r=>r.l.length))
 omega
theorem tX (B:Option Addr) (Rs:List Rm) (c:Nat) (n:Int) (w:World) (hB:RunsAt w B Rs) (hT:tot (aB Rs)<=1000000) (hl:Rs.length<=1000000):
  Calls prog 260 #[.agg #[.slice B Rs.length c,.int .u64 n]] w (ll (jW (aB Rs)) (fA (aB Rs)) w):=by
 obtain⟨W0,hW0⟩:∃W0,w.alloc (.cells #[.slice B Rs.length c,.int .u64 n] 38)=W0:=⟨_,rfl⟩
 have hb0:Below w.heap.size w W0:=by rw[<-hW0];exact(Lg _ _).alloc (Lf _) _
 have b20:Blk W0 w.heap.size 38 #[.slice B Rs.length c,.int .u64 n]:=by rw[<-hW0];exact Blk.new _ _ _
 have HW0:=Lc hW0
 have HB:=Lc (hB.below hb0)
 clear hW0 hB
 have hck:=fun W (hW:Below W0.heap.size W0 W)=>BI B Rs c n W (HB.out.below hW) hT hl
 obtain⟨E,hE⟩:∃E,fA (aB Rs)=E:=⟨_,rfl⟩
 obtain⟨P,hP⟩:∃P,jW (aB Rs)=P:=⟨_,rfl⟩
 have hp0:E≠0->P=[]:=fun h=>by rw[<-hP];unfold jW;rw[if_neg (by rw[hE];exact h)]
 rw[hE]at hck
 rw[hE,hP]
 have HCK:=Lc hck
 have HE:=Lc hE
 have HP:=Lc hP
 clear hck hE hP
 go_enter func260,ntmps260
 go_wp2_with fail
 rw[HW0.out]
 refine(HCK.out _ (Lg _ _)).mono ?_
 rintro e w1 ⟨rfl,hb1⟩
 have hb01:=aa hb0 hb1
 have b21:=b20.below hb1 b20.lt
 have HB1:=Lc (HB.out.below hb1)
 by_cases hE0:E=0
 case neg=>
  have hp:=hp0 hE0
  subst hp
  have h1:(E !=0)=true:=by simpa using hE0
  clear hE0 hp0
  go_wp2
  refine Li (v:= .tuple #[.slice none 0 0,.int .i64 E]) (by simp[results,results260,go_sem]) rfl ?_
  exact⟨none,0,rfl,L6 _ _ _ _,hb01⟩
 case pos=>
 subst hE0
 clear hp0
 obtain⟨hp1,hp2⟩:=Kl HE.out
 have hM:=lI.1 HE.out
 have hq:=Jo hM
 have hmE:=hM.mE
 obtain⟨M,hMM⟩:∃M,mL (aB Rs) true=M:=⟨_,rfl⟩
 rw[HP.out]at hp1
 rw[hMM]at hp1 hp2
 have hml:M.length<=65536:=by rw[<-hMM];exact JL true (by have:=hM.size;unfold tot at this;exact this)
 have HQ:=Lc hq
 have HP1:=Lc hp1
 have HP2:=Lc hp2
 have hmg:∀W,Below w1.heap.size w1 W->Calls prog 263 #[.slice B Rs.length c,.bool true] W (jQ 183 M 0 W):=by
  intro W hW
  have h8:=Ev B Rs c 65536 true W (HB1.out.below hW) (by have:=hq.2.1;omega) (fun r hr=>Lt (hq.1 r hr) (by omega)) hq.2.2 (by omega)
  rw[Gu,Bv]at h8
  have h9:Rs.map Rm.l=aB Rs:=rfl
  rw[h9,hMM,hmE]at h8
  exact h8
 have HMG:=Lc hmg
 have c20:w1.cell? ⟨w.heap.size,0,none⟩=some (.slice B Rs.length c):=b21.cell 0
 clear hp1 hp2 hM hq hmE hMM hmg
 go_wp2_with fail
 refine(HMG.out _ (Lg _ _)).mono ?_
 rintro e w2 ⟨A1,c1,rfl,ho1,hb2⟩
 have HO1:=Lc (aA ho1)
 have HB02:=Lc (aa hb01 hb2)
 clear ho1 c20
 go_upto_region 4 with fail
 obtain⟨W3,hW3⟩:∃W3,w2.alloc (.cells #[.slice A1 M.length c1] 145)=W3:=⟨_,rfl⟩
 have hb3:Below w2.heap.size w2 W3:=by rw[<-hW3];exact(Lg _ _).alloc (Lf _) _
 have b3:Blk W3 w2.heap.size 145 #[.slice A1 M.length c1]:=by rw[<-hW3];exact Blk.new _ _ _
 try rw[hW3]
 have HB03:=Lc (aa HB02.out hb3)
 have HO3:=Lc (HO1.out.below hb3)
 have c30:W3.cell? ⟨w2.heap.size,0,none⟩=some (.slice A1 M.length c1):=b3.cell 0
 clear hW3 hb3
 go_wp2_with fail
 refine(EY A1 M c1 _ HO3.out (by omega)).mono ?_
 rw[HP1.out,HP2.out]
 rintro e w3 ⟨A2,c2,rfl,ho2,hb3⟩
 have HO:=Lc (ay ho2 HB03.out.size)
 clear ho2 c30
 go_wp2
 refine Li (v:= .tuple #[.slice A2 P.length c2,.int .i64 0]) (by simp[results,results260,go_sem]) rfl ?_
 exact⟨A2,c2,rfl,HO.out,aa HB03.out hb3⟩
theorem zR (B:Option Addr) (Rs:List Rm) (c:Nat) (n:Int) (w:World) (hB:RunsAt w B Rs) (hT:tot (aB Rs)<=1000000) (hl:Rs.length<=1000000):
  Calls prog 259 #[.agg #[.slice B Rs.length c,.int .u64 n]] w fun r w'=>r= .returned (.tuple #[.int .i64 (if fA (aB Rs)=0 then(tot (aB Rs):Int)else 0),.int .i64 ((jW (aB Rs)).length:Nat),.int .i64 (fA (aB Rs))])/\Below w.heap.size w w':=by
 obtain⟨W0,hW0⟩:∃W0,w.alloc (.cells #[.slice B Rs.length c,.int .u64 n] 38)=W0:=⟨_,rfl⟩
 have hb0:Below w.heap.size w W0:=by rw[<-hW0];exact(Lg _ _).alloc (Lf _) _
 have b20:Blk W0 w.heap.size 38 #[.slice B Rs.length c,.int .u64 n]:=by rw[<-hW0];exact Blk.new _ _ _
 have HW0:=Lc hW0
 have HB:=Lc (hB.below hb0)
 clear hW0 hB
 have hck:=fun W (hW:Below W0.heap.size W0 W)=>tX B Rs c n W (HB.out.below hW) hT hl
 have hen:=fun W (hW:Below W0.heap.size W0 W)=>xm B Rs c n W (HB.out.below hW) hT hl
 obtain⟨E,hE⟩:∃E,fA (aB Rs)=E:=⟨_,rfl⟩
 obtain⟨P,hP⟩:∃P,jW (aB Rs)=P:=⟨_,rfl⟩
 obtain⟨T,hTT⟩:∃T,tot (aB Rs)=T:=⟨_,rfl⟩
 have hp0:E≠0->P=[]:=fun h=>by rw[<-hP];unfold jW;rw[if_neg (by rw[hE];exact h)]
 rw[hE,hP]at hck
 rw[hTT]at hen hT
 rw[hE,hP,hTT]
 have HCK:=Lc hck
 have HEN:=Lc hen
 have hPE:E=0->P.length<=T:=fun h=>by
  rw[<-hP,<-hTT,vO (by rw[hE];exact h)]
  exact vV
 have HPE:=Lc hPE
 clear hck hen hE hP hTT hPE
 obtain⟨V,hV⟩:∃V:Int,(if E=0 then(T:Int)else 0)=V:=⟨_,rfl⟩
 rw[hV]
 go_enter func259,ntmps259
 go_wp2_with fail
 rw[HW0.out]
 refine(HCK.out _ (Lg _ _)).mono ?_
 rintro e w1 ⟨A1,c1,rfl,ho1,hb1⟩
 have b21:=b20.below hb1 b20.lt
 have hb01:=aa hb0 hb1
 clear ho1
 by_cases hE0:E=0
 case neg=>
  have hp:=hp0 hE0
  subst hp
  rw[if_neg hE0]at hV
  subst hV
  have h1:(E !=0)=true:=by simpa using hE0
  clear hp0
  go_wp2
  refine Li (v:= .tuple #[.int .i64 0,.int .i64 0,.int .i64 E]) (by simp[results,results259,go_sem]) rfl ?_
  exact⟨by first|rfl|simp,hb01⟩
 case pos=>
 subst hE0
 clear hp0
 rw[if_pos rfl]at hV
 subst hV
 have c20:w1.cell? ⟨w.heap.size,0,none⟩=some (.slice B Rs.length c):=b21.cell 0
 have c21:w1.cell? ⟨w.heap.size,1,none⟩=some (.int .u64 n):=b21.cell 1
 go_wp2_with fail
 refine(HEN.out _ hb1).mono ?_
 rintro e w2 ⟨rfl,hb2⟩
 go_wp2
 refine Li (v:= .tuple #[.int .i64 (T:Int),.int .i64 (P.length:Int),.int .i64 0]) (by simp[results,results259,go_sem]) rfl ?_
 exact⟨rfl,aa hb01 hb2⟩
theorem DW {Rs:List Rm}:au (bJ (iD Rs))=au (pE (aB Rs)):=by
 unfold au pE
 rw[oW,vZ]
section
section
variable {w:World} {g:Nat} {t:TypeId} {x0 x1 x2 x3 x4 x5 x6 x7 x8 x9 x10:Value}
theorem Jt (h:Blk w g t #[x0,x1,x2,x3,x4,x5,x6,x7,x8,x9,x10]) (y0 y1 y2 y3 y4 y5 y6 y7 y8 y9 y10:Value):Blk (((((((((((w.setCell ⟨g,0,none⟩ y0).setCell ⟨g,1,none⟩ y1).setCell ⟨g,2,none⟩ y2).setCell ⟨g,3,none⟩ y3).setCell ⟨g,4,none⟩ y4).setCell ⟨g,5,none⟩ y5).setCell ⟨g,6,none⟩ y6).setCell ⟨g,7,none⟩ y7).setCell ⟨g,8,none⟩ y8).setCell ⟨g,9,none⟩ y9).setCell ⟨g,10,none⟩ y10) g t #[y0,y1,y2,y3,y4,y5,y6,y7,y8,y9,y10]:=by
 simpa using((((((((((h.set_ 0 y0).set_ 1 y1).set_ 2 y2).set_ 3 y3).set_ 4 y4).set_ 5 y5).set_ 6 y6).set_ 7 y7).set_ 8 y8).set_ 9 y9).set_ 10 y10
theorem Ck {B:Nat} {a:World} (h:Below B a w) (hg:B<=g) (y0 y1 y2 y3 y4 y5 y6 y7 y8 y9 y10:Value):Below B a (((((((((((w.setCell ⟨g,0,none⟩ y0).setCell ⟨g,1,none⟩ y1).setCell ⟨g,2,none⟩ y2).setCell ⟨g,3,none⟩ y3).setCell ⟨g,4,none⟩ y4).setCell ⟨g,5,none⟩ y5).setCell ⟨g,6,none⟩ y6).setCell ⟨g,7,none⟩ y7).setCell ⟨g,8,none⟩ y8).setCell ⟨g,9,none⟩ y9).setCell ⟨g,10,none⟩ y10):=
 ((((((((((h.setCell (p:=⟨g,0,none⟩) hg y0).setCell (p:=⟨g,1,none⟩) hg y1).setCell (p:=⟨g,2,none⟩) hg y2).setCell (p:=⟨g,3,none⟩) hg y3).setCell (p:=⟨g,4,none⟩) hg y4).setCell (p:=⟨g,5,none⟩) hg y5).setCell (p:=⟨g,6,none⟩) hg y6).setCell (p:=⟨g,7,none⟩) hg y7).setCell (p:=⟨g,8,none⟩) hg y8).setCell (p:=⟨g,9,none⟩) hg y9).setCell (p:=⟨g,10,none⟩) hg y10
end
abbrev eD (c:Cfg) (B:Option Addr) (m k:Nat) (n:Int):Array Value:=#[.int .u8 c.tag,.int .i64 c.most,.int .i64 c.seg,.int .i64 c.least,.int .i64 c.den,.int .i64 c.leafLow,.int .i64 c.rootLow,.int .i64 c.rootHigh,.int .i64 c.leafHigh,.slice B m k,.int .u64 n]
def jr (c:Cfg) (L:Lv):Int:=if iW c=0 then(if fA L=0/\((jW L).length:Int)<=c.most/\tot L<=2*(jW L).length+2 then 0 else 8)else iW c
def Kq (c:Cfg) (L:Lv):List Pr:=if jr c L=0 then jW L else[]
theorem lV {c:Cfg} {L:Lv} (h:jr c L=0):iW c=0/\fA L=0/\((jW L).length:Int)<=c.most/\tot L<=2*(jW L).length+2:=by
 unfold jr at h
 by_cases h1:iW c=0
 ·rw[if_pos h1]at h
  split at h
  ·rename_i h2;exact⟨h1,h2⟩
  ·cases h
 ·rw[if_neg h1]at h;exact absurd h h1
theorem rA (B:Option Addr) (Rs:List Rm) (k:Nat) (c:Cfg) (n:Int) (w:World) (hB:RunsAt w B Rs) (hT:tot (aB Rs)<=1000000) (hl:Rs.length<=1000000):
  Calls prog 257 #[.agg (eD c B Rs.length k n)] w fun r w'=>r= .returned (.int .i64 (jr c (aB Rs)))/\Below w.heap.size w w':=by
 obtain⟨W0,hW0⟩:∃W0,w.alloc (.cells #[.int .u8 c.tag,.int .i64 c.most,.int .i64 c.seg,.int .i64 c.least,.int .i64 c.den,.int .i64 c.leafLow,.int .i64 c.rootLow,.int .i64 c.rootHigh,.int .i64 c.leafHigh,.slice B Rs.length k,.int .u64 n] 40)=W0:=⟨_,rfl⟩
 have hb0:Below w.heap.size w W0:=by rw[<-hW0];exact(Lg _ _).alloc (Lf _) _
 have b0:Blk W0 w.heap.size 40 #[.int .u8 c.tag,.int .i64 c.most,.int .i64 c.seg,.int .i64 c.least,.int .i64 c.den,.int .i64 c.leafLow,.int .i64 c.rootLow,.int .i64 c.rootHigh,.int .i64 c.leafHigh,.slice B Rs.length k,.int .u64 n]:=by rw[<-hW0];exact Blk.new _ _ _
 have HW0:=Lc hW0
 have HB:=Lc (hB.below hb0)
 have HB0:=Lc hb0
 have HC0:=Lc b0
 have hcn:=fun W (hW:Below W0.heap.size W0 W)=>zR B Rs k n W (HB.out.below hW) hT hl
 obtain⟨V,hV⟩:∃V,jr c (aB Rs)=V:=⟨_,rfl⟩
 rw[hV]
 unfold jr at hV
 obtain⟨E,hE⟩:∃E,iW c=E:=⟨_,rfl⟩
 obtain⟨F,hF⟩:∃F,fA (aB Rs)=F:=⟨_,rfl⟩
 obtain⟨P,hP⟩:∃P,(jW (aB Rs)).length=P:=⟨_,rfl⟩
 obtain⟨T,hTT⟩:∃T,tot (aB Rs)=T:=⟨_,rfl⟩
 have hPT:P<=T:=by
  rw[<-hP,<-hTT]
  by_cases h:fA (aB Rs)=0
  ·rw[vO h];exact vV
  ·rw[IC h];simp
 rw[hF,hP,hTT]at hcn
 rw[hE,hF,hP,hTT]at hV
 rw[hTT]at hT
 have hce:=fun W=>nA c W
 rw[hE]at hce
 have HCE:=Lc hce
 have HV:=Lc hV
 obtain⟨Z,hZ⟩:∃Z:Int,(if F=0 then(T:Int)else 0)=Z:=⟨_,rfl⟩
 rw[hZ]at hcn
 have HCN:=Lc hcn
 have HZ:=Lc hZ
 clear hW0 hB hcn hV hce hE hF hP hTT hZ
 have q0:=b0.cell
 clear b0
 go_enter func257,ntmps257
 go_upto_region 1 with fail
 rw[HW0.out]
 go_wp2_with fail
 refine(HCE.out _).mono ?_
 rintro e w1 ⟨rfl,hb1⟩
 have HB1:=Lc (aa HB0.out hb1)
 have b1:=HC0.out.below hb1 HC0.out.lt
 have HC1:=Lc b1
 have HS1:=Lc hb1
 clear hb1 hb0 q0
 by_cases h0:E=0
 case neg=>
  have h1:(E !=0)=true:=by simpa using h0
  have HVV:Hid (V=E):=by show _=_;rw[<-HV.out,if_neg h0]
  clear h0
  go_wp2_with fail
  go_ret
  exact⟨by rw[HVV.out];rfl,HB1.out⟩
 case pos=>
 have HV1:=Lc (show(if F=0/\(P:Int)<=c.most/\T<=2*P+2 then(0:Int)else 8)=V by rw[<-HV.out,if_pos h0])
 subst h0
 have q0:=b1.cell
 clear b1
 go_wp2_with fail
 refine(HCN.out _ HS1.out).mono ?_
 rintro e w2 ⟨rfl,hb2⟩
 have HB2:=Lc (aa HB1.out hb2)
 have b2:=HC1.out.below hb2 HC1.out.lt
 have r1:w2.cell? ⟨w.heap.size,1,none⟩=some (.int .i64 c.most):=b2.cell 1
 clear hb2 b2 q0
 have hw1:IntKind.i64.wrap (2*(P:Int))=2*(P:Int):=Lh _ (by omega)
 have hw2:IntKind.i64.wrap (2*(P:Int)+2)=2*(P:Int)+2:=Lh _ (by omega)
 have hv:=HV1.out
 by_cases hf:F=0
 case neg=>
  have h1:(F !=0)=true:=by simpa using hf
  have HVV:Hid (V=8):=by show _=_;rw[<-hv,if_neg (fun h=>hf h.1)]
  clear hf hv hw1 hw2
  go_wp2_with fail
  go_ret
  exact⟨by rw[HVV.out];rfl,HB2.out⟩
 case pos=>
 subst hf
 have hz:Z=(T:Int):=by rw[<-HZ.out,if_pos rfl]
 subst hz
 by_cases h1:c.most< (P:Int)
 ·have HVV:Hid (V=8):=by show _=_;rw[<-hv,if_neg (fun h=>by omega)]
  clear hv
  go_wp2_with fail
  go_ret
  exact⟨by rw[HVV.out];rfl,HB2.out⟩
 ·by_cases h2:2*(P:Int)+2< (T:Int)
  ·have HVV:Hid (V=8):=by show _=_;rw[<-hv,if_neg (fun h=>by omega)]
   clear hv
   go_wp2_with fail
   go_ret
   exact⟨by rw[HVV.out];rfl,HB2.out⟩
  ·have HVV:Hid (V=0):=by show _=_;rw[<-hv,if_pos ⟨rfl,by omega,by omega⟩]
   clear hv
   go_wp2_with fail
   go_ret
   exact⟨by rw[HVV.out];rfl,HB2.out⟩
theorem BO (B:Option Addr) (Rs:List Rm) (k:Nat) (c:Cfg) (n:Int) (w:World) (hB:RunsAt w B Rs) (hT:tot (aB Rs)<=1000000) (hl:Rs.length<=1000000):
  Calls prog 258 #[.agg (eD c B Rs.length k n)] w (ll (Kq c (aB Rs)) (jr c (aB Rs)) w):=by
 obtain⟨W0,hW0⟩:∃W0,w.alloc (.cells #[.int .u8 c.tag,.int .i64 c.most,.int .i64 c.seg,.int .i64 c.least,.int .i64 c.den,.int .i64 c.leafLow,.int .i64 c.rootLow,.int .i64 c.rootHigh,.int .i64 c.leafHigh,.slice B Rs.length k,.int .u64 n] 40)=W0:=⟨_,rfl⟩
 have hb0:Below w.heap.size w W0:=by rw[<-hW0];exact(Lg _ _).alloc (Lf _) _
 have b0:Blk W0 w.heap.size 40 #[.int .u8 c.tag,.int .i64 c.most,.int .i64 c.seg,.int .i64 c.least,.int .i64 c.den,.int .i64 c.leafLow,.int .i64 c.rootLow,.int .i64 c.rootHigh,.int .i64 c.leafHigh,.slice B Rs.length k,.int .u64 n]:=by rw[<-hW0];exact Blk.new _ _ _
 have HW0:=Lc hW0
 have HB:=Lc (hB.below hb0)
 have HB0:=Lc hb0
 have HC0:=Lc b0
 have hcn:=fun W (hW:Below W0.heap.size W0 W)=>tX B Rs k n W (HB.out.below hW) hT hl
 have hck:=fun W (hW:Below W0.heap.size W0 W)=>rA B Rs k c n W (HB.out.below hW) hT hl
 obtain⟨P,hP⟩:∃V,Kq c (aB Rs)=V:=⟨_,rfl⟩
 obtain⟨E,hE⟩:∃E,jr c (aB Rs)=E:=⟨_,rfl⟩
 have hP2:E≠0->P=[]:=fun h=>by rw[<-hP];unfold Kq;rw[if_neg (by rw[hE];exact h)]
 have hP3:E=0->jW (aB Rs)=P/\fA (aB Rs)=0:=fun h=>by
  refine⟨?_,(lV (hE.trans h)).2.1⟩
  rw[<-hP];unfold Kq;rw[if_pos (hE.trans h)]
 rw[hE]at hck
 rw[hP,hE]
 have HCN:=Lc hcn
 have HCK:=Lc hck
 have HP2:=Lc hP2
 have HP3:=Lc hP3
 clear hW0 hB hcn hck hP hE hP2 hP3
 have q0:=b0.cell
 clear b0
 go_enter func258,ntmps258
 go_upto_region 1 with fail
 rw[HW0.out]
 go_wp2_with fail
 refine(HCK.out _ (Lg _ _)).mono ?_
 rintro e w1 ⟨rfl,hb1⟩
 have HB1:=Lc (aa HB0.out hb1)
 have b1:=HC0.out.below hb1 HC0.out.lt
 have HS1:=Lc hb1
 clear hb1 hb0 q0
 by_cases h0:E=0
 case neg=>
  have h1:(E !=0)=true:=by simpa using h0
  have hp:=HP2.out h0
  subst hp
  clear h0
  go_wp2_with fail
  refine Li (v:= .tuple #[.slice none 0 0,.int .i64 E]) (by simp[results,results258,go_sem]) rfl ?_
  exact⟨none,0,rfl,L6 _ _ _ _,HB1.out⟩
 case pos=>
 subst h0
 have hcc:=HCN.out _ HS1.out
 rw[(HP3.out rfl).1,(HP3.out rfl).2]at hcc
 have HCC:=Lc hcc
 have q0:=b1.cell
 clear b1 hcc
 go_wp2_with fail
 refine HCC.out.mono ?_
 rintro e w2 ⟨A2,c2,rfl,ho2,hb2⟩
 have HO:=Lc (ay (B':=w.heap.size) ho2 HB1.out.size)
 have HB2:=Lc (aa HB1.out hb2)
 clear ho2 hb2 q0
 go_wp2_with fail
 refine Li (v:= .tuple #[.slice A2 P.length c2,.int .i64 0]) (by simp[results,results258,go_sem]) rfl ?_
 exact⟨A2,c2,rfl,HO.out,HB2.out⟩
end
theorem yl (B:Option Addr) (Rs:List Rm) (k most:Nat) (c:Cfg) (n:Int) (w:World) (hB:RunsAt w B Rs) (hm:most<=1000000):
  Calls prog 25 #[.agg (eD c B Rs.length k n),.int .i64 most] w fun r w'=>∃G:Bool,r= .returned (.bool G)/\(G=false->Rs.length+tot (aB Rs)<=most)/\Below w.heap.size w w':=by
 obtain⟨W0,hW0⟩:∃W0,w.alloc (.cells (eD c B Rs.length k n) 40)=W0:=⟨_,rfl⟩
 have hb0:Below w.heap.size w W0:=by rw[<-hW0];exact(Lg _ _).alloc (Lf _) _
 have b0:Blk W0 w.heap.size 40 (eD c B Rs.length k n):=by rw[<-hW0];exact Blk.new _ _ _
 have HW0:=Lc hW0
 have HB:=Lc (hB.below hb0)
 have HB0:=Lc hb0
 have HC0:=Lc b0
 have HG:=Lc (za B Rs k most n W0 HB.out hm)
 clear hW0 hB
 have q0:=b0.cell
 clear b0
 go_enter func25,ntmps25
 go_upto_region 1 with fail
 rw[HW0.out]
 go_wp2_with fail
 refine HG.out.mono ?_
 rintro e w1 ⟨G,rfl,hG,hb1⟩
 have HGG:=Lc hG
 clear hG q0
 go_wp2
 go_ret
 exact⟨G,rfl,HGG.out,aa HB0.out hb1⟩
theorem OwnRs.set11 {w:World} {B0 g:Nat} {B:Option Addr} {c:Nat} {Rs:List Rm} {t:TypeId} {x0 x1 x2 x3 x4 x5 x6 x7 x8 x9 x10:Value} (h:OwnRs w B0 B c Rs) (hB:Blk w g t #[x0,x1,x2,x3,x4,x5,x6,x7,x8,x9,x10]) (h1:145≠t) (h2:183≠t) (y0 y1 y2 y3 y4 y5 y6 y7 y8 y9 y10:Value):OwnRs (((((((((((w.setCell ⟨g,0,none⟩ y0).setCell ⟨g,1,none⟩ y1).setCell ⟨g,2,none⟩ y2).setCell ⟨g,3,none⟩ y3).setCell ⟨g,4,none⟩ y4).setCell ⟨g,5,none⟩ y5).setCell ⟨g,6,none⟩ y6).setCell ⟨g,7,none⟩ y7).setCell ⟨g,8,none⟩ y8).setCell ⟨g,9,none⟩ y9).setCell ⟨g,10,none⟩ y10) B0 B c Rs:=by
 have h10:=h.setT hB h1 h2 0 y0
 have b10:=hB.set_ 0 y0
 have h11:=h10.setT b10 h1 h2 1 y1
 have b11:=b10.set_ 1 y1
 have h12:=h11.setT b11 h1 h2 2 y2
 have b12:=b11.set_ 2 y2
 have h13:=h12.setT b12 h1 h2 3 y3
 have b13:=b12.set_ 3 y3
 have h14:=h13.setT b13 h1 h2 4 y4
 have b14:=b13.set_ 4 y4
 have h15:=h14.setT b14 h1 h2 5 y5
 have b15:=b14.set_ 5 y5
 have h16:=h15.setT b15 h1 h2 6 y6
 have b16:=b15.set_ 6 y6
 have h17:=h16.setT b16 h1 h2 7 y7
 have b17:=b16.set_ 7 y7
 have h18:=h17.setT b17 h1 h2 8 y8
 have b18:=b17.set_ 8 y8
 have h19:=h18.setT b18 h1 h2 9 y9
 have b19:=b18.set_ 9 y9
 have h20:=h19.setT b19 h1 h2 10 y10
 have b20:=b19.set_ 10 y10
 exact h20
def Pre (Rs Ts:List Rm) (k:Nat):Prop:=∀j (h1:j< Rs.length) (h2:j< Ts.length),j< k->(Rs[j]'h1).l=(Ts[j]'h2).l
theorem Ia {Rs Ts:List Rm} {k:Nat} (h:Pre Rs Ts k) (h1:k< Rs.length) (h2:k< Ts.length) (he:(Rs[k]'h1).l=(Ts[k]'h2).l):Pre Rs Ts (k+1):=fun j h3 h4 h5=>by
 by_cases e:j=k
 ·subst e;exact he
 ·exact h j h3 h4 (by omega)
theorem wP {Rs:List Rm} {j:Nat} (h:j< Rs.length):(aB Rs)[j]?=some (Rs[j]'h).l:=by
 unfold aB
 rw[List.getElem?_map,List.getElem?_eq_getElem h]
 rfl
theorem Gx {Rs Ts:List Rm} {k:Nat} (h1:k< Rs.length) (h2:k< Ts.length) (he:(Rs[k]'h1).l≠(Ts[k]'h2).l):decide (aB Rs=aB Ts)=false:=by
 refine decide_eq_false fun h=>he ?_
 have h3:=wP h1
 rw[h,wP h2]at h3
 exact(Le h3).symm
theorem Cg {Rs Ts:List Rm} {k:Nat} (h:Pre Rs Ts k) (h1:Rs.length=Ts.length) (h2:¬k< Rs.length):decide (aB Rs=aB Ts)=true:=by
 refine decide_eq_true (List.ext_getElem? fun j=>?_)
 by_cases hj:j< Rs.length
 ·rw[wP hj,wP (h1 ▸ hj),h j hj (h1 ▸ hj) (by omega)]
 ·rw[MG (by rw[dw];omega),MG (by rw[dw];omega)]
theorem Hu {Rs Ts:List Rm} (h:¬Rs.length=Ts.length):decide (aB Rs=aB Ts)=false:=decide_eq_false fun h2=>h (by have:=congrArg List.length h2;rwa [dw,dw]at this)
theorem zU (B D:Option Addr) (Rs Ts:List Rm) (c d:Nat) (w:World) (hB:RunsAt w B Rs) (hD:RunsAt w D Ts) (hl:Rs.length<=1000000) (hrs:∀r∈Rs,r.l.length<=1000000) (hts:∀r∈Ts,r.l.length<=1000000):
  Calls prog 124 #[.slice B Rs.length c,.slice D Ts.length d,.func (.func 125) #[] #[]] w fun r w'=>r= .returned (.bool (decide (aB Rs=aB Ts)))/\Below w.heap.size w w':=by
 have HB:=Lc hB
 have HD:=Lc hD
 have HHR:=Lc hrs
 have HHT:=Lc hts
 clear hB hD hrs hts
 by_cases hlen:Rs.length=Ts.length
 case neg=>
  rw[Hu hlen]
  have g1:((Rs.length:Int)!=(Ts.length:Int))=true:=by simpa using(show¬(Rs.length:Int)=(Ts.length:Int)by omega)
  clear hlen
  go_enter func124,ntmps124
  go_wp2
  go_ret
  exact⟨rfl,Lg _ _⟩
 case pos=>
 obtain⟨Q,hQ⟩:∃Q,decide (aB Rs=aB Ts)=Q:=⟨_,rfl⟩
 rw[hQ]
 have HQ:=Lc hQ
 have HLEN:=Lc hlen
 have g1:((Rs.length:Int)!=(Ts.length:Int))=false:=by simpa using(show(Rs.length:Int)=(Ts.length:Int)by omega)
 have HP0:Hid (Pre Rs Ts 0):=fun j _ _ h=>by omega
 have hl2:Ts.length<=1000000:=by omega
 clear hQ hlen
 go_enter func124,ntmps124
 go_wp2
 go_loopw [17] (fun i wr=>∃k:Nat,k<=Rs.length/\i= .int .i64 k/\Below w.heap.size w wr/\Hid (Pre Rs Ts k)) (fun i _=>Rs.length-(intOf i).toNat)
 case atStart=>exact⟨0,LC _,rfl,Lg _ _,HP0.out⟩
 case round=>
  obtain⟨k,hk,rfl,hb,hpre⟩:=hrel
  by_cases hlt:k< Rs.length
  ·have hlt2:k< Ts.length:=by rw[<-HLEN.out];exact hlt
   obtain⟨b,off,rfl,hbl,cp⟩:=HB.out.sl.oneB hb k hlt
   obtain⟨b2,off2,rfl,hbl2,cq⟩:=HD.out.sl.oneB hb k hlt2
   have hok:=(HB.out.ok _ (LP hlt)).below hb
   have hok2:=(HD.out.ok _ (LP hlt2)).below hb
   have hrl:=HHR.out _ (LP hlt)
   have hrl2:=HHT.out _ (LP hlt2)
   have hup:=Lc (fun h=>Ia hpre.out hlt hlt2 h)
   have hno:=Lc (fun h=>Gx hlt hlt2 h)
   obtain⟨r,hr⟩:∃r,Rs[k]'hlt=r:=⟨_,rfl⟩
   obtain⟨s,hs⟩:∃s,Ts[k]'hlt2=s:=⟨_,rfl⟩
   rw[hr]at cp hok hrl hup hno
   rw[hs]at cq hok2 hrl2 hup hno
   obtain⟨l,A,cl⟩:=r
   obtain⟨m,A2,cm⟩:=s
   have cp1:wr.cell? ⟨b,off+k,none⟩=some (.slice A l.length cl):=cp
   have cq1:wr.cell? ⟨b2,off2+k,none⟩=some (.slice A2 m.length cm):=cq
   dsimp only at hrl hrl2 hup hno
   have hki:(0:Int)<=(k:Int):=by omega
   have hki2:(k:Int)< (Rs.length:Int):=by omega
   have hki3:(k:Int)< (Ts.length:Int):=by omega
   obtain⟨V,hV⟩:∃V,decide (l=m)=V:=⟨_,rfl⟩
   have lb1:b< wr.heap.size:=Nat.lt_of_lt_of_le hbl hb.size
   have lb2:b2< wr.heap.size:=Nat.lt_of_lt_of_le hbl2 hb.size
   have HV:=Lc hV
   have hsm:∀W,Below wr.heap.size wr W->Calls prog 125 #[.agg #[.slice A l.length cl],.agg #[.slice A2 m.length cm]] W (fun r w'=>r= .returned (.bool V)/\Below W.heap.size W w'):=by
    intro W hW
    have h8:=uf A A2 l m cl cm W (hok.sl.below hW) (hok2.sl.below hW) (by omega) (by omega)
    rw[hV]at h8
    exact h8
   have HSM:=Lc hsm
   have HBB:Hid (Below wr.heap.size wr ((wr.alloc (.cells #[.slice A l.length cl] 145)).alloc (.cells #[.slice A2 m.length cm] 145))):=((Lg _ _).alloc (Lf _) _).alloc (by simp) _
   clear cp cq hr hs hok hok2 hV hsm hbl hbl2
   go_wp2_with fail
   refine(HSM.out _ HBB.out).mono ?_
   rintro e w2 ⟨rfl,hb2⟩
   have hb3:=aa hb (aa HBB.out hb2)
   cases V with
   |true=>
    go_wp2
    go_roundw
    case rel=>exact⟨k+1,by omega,by go_num,hb3,hup.out (of_decide_eq_true HV.out)⟩
    case measure=>simp[intOf];omega
   |false=>
    have HF:Hid (Q=false):=by show _=_;rw[<-HQ.out];exact hno.out (of_decide_eq_false HV.out)
    go_wp2
    go_ret
    exact⟨by rw[HF.out];rfl,hb3⟩
  ·have HF:Hid (Q=true):=by show _=_;rw[<-HQ.out];exact Cg hpre.out HLEN.out hlt
   go_wp2
   go_ret
   exact⟨by rw[HF.out];rfl,hb⟩
theorem EW (B D:Option Addr) (Rs Ts:List Rm) (nr nt c d:Nat) (n m:Int) (w:World) (hnr:Rs.length=nr) (hnt:Ts.length=nt) (hB:RunsAt w B Rs) (hD:RunsAt w D Ts) (hl:Rs.length<=1000000) (hrs:∀r∈Rs,r.l.length<=1000000) (hts:∀r∈Ts,r.l.length<=1000000):
  Calls prog 108 #[.agg #[.slice B nr c,.int .u64 n],.agg #[.slice D nt d,.int .u64 m]] w fun r w'=>r= .returned (.bool (decide (n=m)&&decide (aB Rs=aB Ts)))/\Below w.heap.size w w':=by
 have hb0:Below w.heap.size w ((w.alloc (.cells #[.slice B nr c,.int .u64 n] 38)).alloc (.cells #[.slice D nt d,.int .u64 m] 38)):=((Lg _ _).alloc (Lf _) _).alloc (by simp) _
 have hsa:=fun W (hW:Below w.heap.size w W)=>zU B D Rs Ts c d W (hB.below hW) (hD.below hW) hl hrs hts
 rw[hnr,hnt]at hsa
 obtain⟨Q,hQ⟩:∃Q,decide (aB Rs=aB Ts)=Q:=⟨_,rfl⟩
 rw[hQ]at hsa ⊢
 have HSA:=Lc hsa
 clear hsa hB hD hrs hts hQ
 by_cases hnm:n=m
 ·subst hnm
  rw[decide_eq_true rfl,Bool.true_and]
  go_enter func108,ntmps108
  go_wp2_with fail
  refine(HSA.out _ hb0).mono ?_
  rintro e w1 ⟨rfl,hb1⟩
  go_wp2
  go_ret
  exact⟨rfl,aa hb0 hb1⟩
 ·have g1:(n==m)=false:=by simpa using hnm
  rw[decide_eq_false hnm,Bool.false_and]
  clear hnm
  go_enter func108,ntmps108
  go_wp2_with fail
  go_ret
  exact⟨rfl,hb0⟩
theorem wy (B D:Option Addr) (Rs Ts:List Rm) (c d:Nat) (w:World) (hB:RunsAt w B Rs) (hD:RunsAt w D Ts) (hl:Rs.length<=1000000) (hrs:∀r∈Rs,r.l.length<=1000000) (hts:∀r∈Ts,r.l.length<=1000000):
  Calls prog 77 #[.slice B Rs.length c,.slice D Ts.length d] w fun r w'=>r= .returned (.bool (decide (aB Rs=aB Ts)))/\Below w.heap.size w w':=by
 have HB:=Lc hB
 have HD:=Lc hD
 have HHR:=Lc hrs
 have HHT:=Lc hts
 clear hB hD hrs hts
 by_cases hlen:Rs.length=Ts.length
 case neg=>
  rw[Hu hlen]
  have g1:((Rs.length:Int)!=(Ts.length:Int))=true:=by simpa using(show¬(Rs.length:Int)=(Ts.length:Int)by omega)
  clear hlen
  go_enter func77,ntmps77
  go_wp2
  go_ret
  exact⟨rfl,Lg _ _⟩
 case pos=>
 obtain⟨Q,hQ⟩:∃Q,decide (aB Rs=aB Ts)=Q:=⟨_,rfl⟩
 rw[hQ]
 have HQ:=Lc hQ
 have HLEN:=Lc hlen
 have g1:((Rs.length:Int)!=(Ts.length:Int))=false:=by simpa using(show(Rs.length:Int)=(Ts.length:Int)by omega)
 have HP0:Hid (Pre Rs Ts 0):=fun j _ _ h=>by omega
 have hl2:Ts.length<=1000000:=by omega
 clear hQ hlen
 go_enter func77,ntmps77
 go_wp2
 go_loopw [5] (fun i wr=>∃k:Nat,k<=Rs.length/\i= .int .i64 k/\Below w.heap.size w wr/\Hid (Pre Rs Ts k)) (fun i _=>Rs.length-(intOf i).toNat)
 case atStart=>exact⟨0,LC _,rfl,Lg _ _,HP0.out⟩
 case round=>
  obtain⟨k,hk,rfl,hb,hpre⟩:=hrel
  by_cases hlt:k< Rs.length
  ·have hlt2:k< Ts.length:=by rw[<-HLEN.out];exact hlt
   obtain⟨b,off,rfl,hbl,cp⟩:=HB.out.sl.oneB hb k hlt
   obtain⟨b2,off2,rfl,hbl2,cq⟩:=HD.out.sl.oneB hb k hlt2
   have hok:=(HB.out.ok _ (LP hlt)).below hb
   have hok2:=(HD.out.ok _ (LP hlt2)).below hb
   have hrl:=HHR.out _ (LP hlt)
   have hrl2:=HHT.out _ (LP hlt2)
   have hup:=Lc (fun h=>Ia hpre.out hlt hlt2 h)
   have hno:=Lc (fun h=>Gx hlt hlt2 h)
   obtain⟨r,hr⟩:∃r,Rs[k]'hlt=r:=⟨_,rfl⟩
   obtain⟨s,hs⟩:∃s,Ts[k]'hlt2=s:=⟨_,rfl⟩
   rw[hr]at cp hok hrl hup hno
   rw[hs]at cq hok2 hrl2 hup hno
   obtain⟨l,A,cl⟩:=r
   obtain⟨m,A2,cm⟩:=s
   have cp1:wr.cell? ⟨b,off+k,none⟩=some (.slice A l.length cl):=cp
   have cq1:wr.cell? ⟨b2,off2+k,none⟩=some (.slice A2 m.length cm):=cq
   dsimp only at hrl hrl2 hup hno
   have hki:(0:Int)<=(k:Int):=by omega
   have hki2:(k:Int)< (Rs.length:Int):=by omega
   have hki3:(k:Int)< (Ts.length:Int):=by omega
   obtain⟨V,hV⟩:∃V,decide (l=m)=V:=⟨_,rfl⟩
   have lb1:b< wr.heap.size:=Nat.lt_of_lt_of_le hbl hb.size
   have lb2:b2< wr.heap.size:=Nat.lt_of_lt_of_le hbl2 hb.size
   have HV:=Lc hV
   have hsm:∀W,Below wr.heap.size wr W->Calls prog 91 #[.agg #[.slice A l.length cl],.agg #[.slice A2 m.length cm]] W (fun r w'=>r= .returned (.bool V)/\Below W.heap.size W w'):=by
    intro W hW
    have h8:=xP A A2 l m cl cm W (hok.sl.below hW) (hok2.sl.below hW) (by omega) (by omega)
    rw[hV]at h8
    exact h8
   have HSM:=Lc hsm
   clear cp cq hr hs hok hok2 hV hsm hbl hbl2
   go_upto_region 6 with fail
   go_cut [26]from 17 to 26 (fun v wx=>v= .bool (!V)/\Below wr.heap.size wr wx)
   case first=>
    go_region_held3 (fun w'=>(∀bq jq,bq< wr.heap.size->w'.cell? ⟨bq,jq,none⟩=wr.cell? ⟨bq,jq,none⟩)/\(∀bq jq,bq< wr.heap.size->w'.frozen? ⟨bq,jq,none⟩=wr.frozen? ⟨bq,jq,none⟩)/\wr.heap.size<=w'.heap.size/\Below wr.heap.size wr w') ((with_reducible first|exact SB.init|exact SB.init0|exact SB.below (by assumption) (by assumption)|assumption))
     (first
      |(go_at_call 91;refine(HSM.out _ (SB.bel (by assumption))).mono ?_;rintro e22 v22 ⟨rfl,hv22⟩;have hl22:=SB.le hv22 (by assumption);obtain⟨hc22,hz22,hs22⟩:=dC hv22)
      |fail "no arm")
    all_goals
     go_wp2_with fail
     go_meet
     exact⟨by simp,SB.bel (by assumption)⟩
   case rest=>
    obtain⟨rfl,hb2⟩:=hcut
    have hb3:=aa hb hb2
    clear cp1 cq1
    cases V with
    |true=>
     go_wp2
     go_roundw
     case rel=>exact⟨k+1,by omega,by go_num,hb3,hup.out (of_decide_eq_true HV.out)⟩
     case measure=>simp[intOf];omega
    |false=>
     have HF:Hid (Q=false):=by show _=_;rw[<-HQ.out];exact hno.out (of_decide_eq_false HV.out)
     go_wp2
     go_ret
     exact⟨by rw[HF.out];rfl,hb3⟩
  ·have HF:Hid (Q=true):=by show _=_;rw[<-HQ.out];exact Cg hpre.out HLEN.out hlt
   go_wp2
   go_ret
   exact⟨by rw[HF.out];rfl,hb⟩
theorem zM (B D:Option Addr) (Rs Ts:List Rm) (nr nt c d:Nat) (n m:Int) (w:World) (hnr:Rs.length=nr) (hnt:Ts.length=nt) (hB:RunsAt w B Rs) (hD:RunsAt w D Ts) (hl:Rs.length<=1000000) (hrs:∀r∈Rs,r.l.length<=1000000) (hts:∀r∈Ts,r.l.length<=1000000):
  Calls prog 61 #[.agg #[.slice B nr c,.int .u64 n],.agg #[.slice D nt d,.int .u64 m]] w fun r w'=>r= .returned (.bool (decide (n=m)&&decide (aB Rs=aB Ts)))/\Below w.heap.size w w':=by
 have hb0:Below w.heap.size w ((w.alloc (.cells #[.slice B nr c,.int .u64 n] 38)).alloc (.cells #[.slice D nt d,.int .u64 m] 38)):=((Lg _ _).alloc (Lf _) _).alloc (by simp) _
 have hsa:=fun W (hW:Below w.heap.size w W)=>wy B D Rs Ts c d W (hB.below hW) (hD.below hW) hl hrs hts
 rw[hnr,hnt]at hsa
 obtain⟨Q,hQ⟩:∃Q,decide (aB Rs=aB Ts)=Q:=⟨_,rfl⟩
 rw[hQ]at hsa ⊢
 have HSA:=Lc hsa
 clear hsa hB hD hrs hts hQ
 by_cases hnm:n=m
 ·subst hnm
  rw[decide_eq_true rfl,Bool.true_and]
  go_enter func61,ntmps61
  go_wp2_with fail
  refine(HSA.out _ hb0).mono ?_
  rintro e w1 ⟨rfl,hb1⟩
  go_wp2
  go_ret
  exact⟨rfl,aa hb0 hb1⟩
 ·have g1:(n==m)=false:=by simpa using hnm
  rw[decide_eq_false hnm,Bool.false_and]
  clear hnm
  go_enter func61,ntmps61
  go_wp2_with fail
  go_ret
  exact⟨rfl,hb0⟩
def J4 (c d:Cfg):Bool:=decide (c=d)
theorem qw (c d:Cfg) (w:World):
  (binOp .eql 24 (.agg #[.int .u8 c.tag,.int .i64 c.most,.int .i64 c.seg,.int .i64 c.least,.int .i64 c.den,.int .i64 c.leafLow,.int .i64 c.rootLow,.int .i64 c.rootHigh,.int .i64 c.leafHigh]) (.agg #[.int .u8 d.tag,.int .i64 d.most,.int .i64 d.seg,.int .i64 d.least,.int .i64 d.den,.int .i64 d.leafLow,.int .i64 d.rootLow,.int .i64 d.rootHigh,.int .i64 d.leafHigh])).run prog w= .ok (.bool (J4 c d)) w:=by
 have h3:=underlying24
 obtain⟨x0,x1,x2,x3,x4,x5,x6,x7,x8⟩:=c
 obtain⟨y0,y1,y2,y3,y4,y5,y6,y7,y8⟩:=d
 simp only[go_sem,h3]
 simp[go_sem,J4]
 by_cases h0:x0=y0
 ·by_cases h1:x1=y1
  ·by_cases h2:x2=y2
   ·by_cases h3:x3=y3
    ·by_cases h4:x4=y4
     ·by_cases h5:x5=y5
      ·by_cases h6:x6=y6
       ·by_cases h7:x7=y7 <;> by_cases h8:x8=y8 <;> simp[h0,h1,h2,h3,h4,h5,h6,h7,h8]
       ·simp[h0,h1,h2,h3,h4,h5,h6]
      ·simp[h0,h1,h2,h3,h4,h5]
     ·simp[h0,h1,h2,h3,h4]
    ·simp[h0,h1,h2,h3]
   ·simp[h0,h1,h2]
  ·simp[h0,h1]
 ·simp[h0]
def sH (c d:Cfg) (n m:Int) (K L:Lv):Bool:=J4 c d&&(decide (n=m)&&decide (K=L))
theorem GJ {P:Prop} (h:P:=by
 obtain⟨W0,hW0⟩:∃W0,(w.alloc (.cells #[.int .u8 c.tag,.int .i64 c.most,.int .i64 c.seg,.int .i64 c.least,.int .i64 c.den,.int .i64 c.leafLow,.int .i64 c.rootLow,.int .i64 c.rootHigh,.int .i64 c.leafHigh,.slice B nr k,.int .u64 n] 40)).alloc (.cells #[.int .u8 d.tag,.int .i64 d.most,.int .i64 d.seg,.int .i64 d.least,.int .i64 d.den,.int .i64 d.leafLow,.int .i64 d.rootLow,.int .i64 d.rootHigh,.int .i64 d.leafHigh,.slice D nt q,.int .u64 m] 40)=W0:=⟨_,rfl⟩
 have hb0:Below w.heap.size w W0:=by rw[<-hW0];exact((Lg _ _).alloc (Lf _) _).alloc (by simp) _
 have b1:Blk W0 w.heap.size 40 #[.int .u8 c.tag,.int .i64 c.most,.int .i64 c.seg,.int .i64 c.least,.int .i64 c.den,.int .i64 c.leafLow,.int .i64 c.rootLow,.int .i64 c.rootHigh,.int .i64 c.leafHigh,.slice B nr k,.int .u64 n]:=by rw[<-hW0];exact(Blk.new _ _ _).alloc _
 have b2:Blk W0 (w.heap.size+1) 40 #[.int .u8 d.tag,.int .i64 d.most,.int .i64 d.seg,.int .i64 d.least,.int .i64 d.den,.int .i64 d.leafLow,.int .i64 d.rootLow,.int .i64 d.rootHigh,.int .i64 d.leafHigh,.slice D nt q,.int .u64 m]:=by
  rw[<-hW0]
  have:=Blk.new (w.alloc (.cells #[.int .u8 c.tag,.int .i64 c.most,.int .i64 c.seg,.int .i64 c.least,.int .i64 c.den,.int .i64 c.leafLow,.int .i64 c.rootLow,.int .i64 c.rootHigh,.int .i64 c.leafHigh,.slice B nr k,.int .u64 n] 40)) 40 #[.int .u8 d.tag,.int .i64 d.most,.int .i64 d.seg,.int .i64 d.least,.int .i64 d.den,.int .i64 d.leafLow,.int .i64 d.rootLow,.int .i64 d.rootHigh,.int .i64 d.leafHigh,.slice D nt q,.int .u64 m]
  rwa [Ls]at this
 have HW0:=Lc hW0
 first|(have mz:=mk0;clear mz;have hsa:=EW B D Rs Ts nr nt k q n m W0 hnr hnt (hB.below hb0) (hD.below hb0) hl hrs hts)|(have mz:=mk1;clear mz;have hsa:=zM B D Rs Ts nr nt k q n m W0 hnr hnt (hB.below hb0) (hD.below hb0) hl hrs hts)
 have heq:=fun W=>qw c d W
 obtain⟨S,hS⟩:∃S,sH c d n m (aB Rs) (aB Ts)=S:=⟨_,rfl⟩
 rw[hS]
 unfold sH at hS
 obtain⟨V,hV⟩:∃V,(decide (n=m)&&decide (aB Rs=aB Ts))=V:=⟨_,rfl⟩
 rw[hV]at hsa hS
 obtain⟨E,hE⟩:∃E,J4 c d=E:=⟨_,rfl⟩
 rw[hE]at heq hS
 have HSA:=Lc hsa
 have HS:=Lc hS
 clear hsa hS hV hE hB hD hrs hts hW0
 have p0:=b1.cell
 have q0:=b2.cell
 have l1:=b1.lt
 have l2:=b2.lt
 clear b1 b2
 first|go_enter func94,ntmps94|go_enter func39,ntmps39
 go_upto_region 1 with fail
 rw[HW0.out]
 cases E with
 |true=>
  have HT:Hid (V=S):=by show _=_;rw[<-HS.out];simp
  go_wp2_with fail
  refine HSA.out.mono ?_
  rintro e w1 ⟨rfl,hb1⟩
  go_wp2
  go_ret
  exact⟨by rw[<-HT.out];rfl,aa hb0 hb1⟩
 |false=>
  have HT:Hid (S=false):=by show _=_;rw[<-HS.out];simp
  go_wp2_with fail
  go_ret
  exact⟨by rw[HT.out];rfl,hb0⟩):P:=h
theorem D6 (c d:Cfg) (B D:Option Addr) (Rs Ts:List Rm) (nr nt k q:Nat) (n m:Int) (w:World) (hnr:Rs.length=nr) (hnt:Ts.length=nt) (hB:RunsAt w B Rs) (hD:RunsAt w D Ts) (hl:Rs.length<=1000000) (hrs:∀r∈Rs,r.l.length<=1000000) (hts:∀r∈Ts,r.l.length<=1000000):
  Calls prog 94 #[.agg (eD c B nr k n),.agg (eD d D nt q m)] w fun r w'=>r= .returned (.bool (sH c d n m (aB Rs) (aB Ts)))/\Below w.heap.size w w':=by
 have mk0:=()
 exact GJ
theorem AY (c d:Cfg) (B D:Option Addr) (Rs Ts:List Rm) (nr nt k q:Nat) (n m:Int) (w:World) (hnr:Rs.length=nr) (hnt:Ts.length=nt) (hB:RunsAt w B Rs) (hD:RunsAt w D Ts) (hl:Rs.length<=1000000) (hrs:∀r∈Rs,r.l.length<=1000000) (hts:∀r∈Ts,r.l.length<=1000000):
  Calls prog 39 #[.agg (eD c B nr k n),.agg (eD d D nt q m)] w fun r w'=>r= .returned (.bool (sH c d n m (aB Rs) (aB Ts)))/\Below w.heap.size w w':=by
 have mk1:=()
 exact GJ
def CX (c:Cfg) (L:Lv) (n:Int) (w:World) (r:Ending) (w':World):Prop:=∃B k Rs,r= .returned (.agg (eD c B Rs.length k n))/\aB Rs=L/\OwnRs w' w.heap.size B k Rs/\Below w.heap.size w w'
theorem Er (B:Option Addr) (Rs:List Rm) (k:Nat) (c:Cfg) (n:Int) (w:World) (hB:RunsAt w B Rs) (hl:Rs.length<=1000000) (hrs:∀r∈Rs,r.l.length<=1000000):
  Calls prog 97 #[.agg (eD c B Rs.length k n)] w (CX c (aB Rs) n w):=by
 obtain⟨W0,hW0⟩:∃W0,(w.alloc (.cells #[.int .u8 c.tag,.int .i64 c.most,.int .i64 c.seg,.int .i64 c.least,.int .i64 c.den,.int .i64 c.leafLow,.int .i64 c.rootLow,.int .i64 c.rootHigh,.int .i64 c.leafHigh,.slice B Rs.length k,.int .u64 n] 40)).alloc (.cells #[.int .u8 0,.int .i64 0,.int .i64 0,.int .i64 0,.int .i64 0,.int .i64 0,.int .i64 0,.int .i64 0,.int .i64 0,.slice none 0 0,.int .u64 0] 40)=W0:=⟨_,rfl⟩
 have hb0:Below w.heap.size w W0:=by rw[<-hW0];exact((Lg _ _).alloc (Lf _) _).alloc (by simp) _
 have b0:Blk W0 w.heap.size 40 #[.int .u8 c.tag,.int .i64 c.most,.int .i64 c.seg,.int .i64 c.least,.int .i64 c.den,.int .i64 c.leafLow,.int .i64 c.rootLow,.int .i64 c.rootHigh,.int .i64 c.leafHigh,.slice B Rs.length k,.int .u64 n]:=by rw[<-hW0];exact(Blk.new _ _ _).alloc _
 have br0:Blk W0 (w.heap.size+1) 40 #[.int .u8 0,.int .i64 0,.int .i64 0,.int .i64 0,.int .i64 0,.int .i64 0,.int .i64 0,.int .i64 0,.int .i64 0,.slice none 0 0,.int .u64 0]:=by
  rw[<-hW0]
  have:=Blk.new (w.alloc (.cells #[.int .u8 c.tag,.int .i64 c.most,.int .i64 c.seg,.int .i64 c.least,.int .i64 c.den,.int .i64 c.leafLow,.int .i64 c.rootLow,.int .i64 c.rootHigh,.int .i64 c.leafHigh,.slice B Rs.length k,.int .u64 n] 40)) 40 #[.int .u8 0,.int .i64 0,.int .i64 0,.int .i64 0,.int .i64 0,.int .i64 0,.int .i64 0,.int .i64 0,.int .i64 0,.slice none 0 0,.int .u64 0]
  rwa [Ls]at this
 have HW0:=Lc hW0
 have HB:=Lc (hB.below hb0)
 have HB0:=Lc hb0
 have HC0:=Lc b0
 have HR0:=Lc br0
 have htw:=Ea B Rs k n W0 (hB.below hb0) hl hrs
 have HTW:=Lc htw
 have HB0:=Lc hb0
 have HC0:=Lc b0
 have HR0:=Lc br0
 clear hW0 htw hB hrs
 have q0:=b0.cell
 clear b0 br0 hb0
 go_enter func97,ntmps97
 go_upto_region 1 with fail
 rw[HW0.out]
 go_wp2_with fail
 refine HTW.out.mono ?_
 rintro e w1 ⟨A2,k2,R2,rfl,hl2,ho2,hb1⟩
 have HL2:=Lc hl2
 have HO2:=Lc (ho2.mono HB0.out.size)
 have b1:=HC0.out.below hb1 HC0.out.lt
 have HR1:=Lc (HR0.out.below hb1 HR0.out.lt)
 have HB1:=Lc (aa HB0.out hb1)
 clear hl2 ho2 hb1 q0
 have q0:=b1.cell
 have fr0:=b1.frozen
 have l1:=b1.lt
 go_upto_region 2 with fail
 obtain⟨U1,hU1⟩:∃U,(w1.setCell ⟨w.heap.size,9,none⟩ (.slice A2 R2.length k2)).setCell ⟨w.heap.size,10,none⟩ (.int .u64 n)=U:=⟨_,rfl⟩
 rw[hU1]
 have bb:Blk U1 w.heap.size 40 #[.int .u8 c.tag,.int .i64 c.most,.int .i64 c.seg,.int .i64 c.least,.int .i64 c.den,.int .i64 c.leafLow,.int .i64 c.rootLow,.int .i64 c.rootHigh,.int .i64 c.leafHigh,.slice A2 R2.length k2,.int .u64 n]:=by
  rw[<-hU1]
  have h:=(b1.set_ 9 (.slice A2 R2.length k2)).set_ 10 (.int .u64 n)
  simpa using h
 have br:Blk U1 (w.heap.size+1) 40 #[.int .u8 0,.int .i64 0,.int .i64 0,.int .i64 0,.int .i64 0,.int .i64 0,.int .i64 0,.int .i64 0,.int .i64 0,.slice none 0 0,.int .u64 0]:=by
  rw[<-hU1]
  exact(HR1.out.far (p:=⟨w.heap.size,9,none⟩) (by simp) _).far (p:=⟨w.heap.size,10,none⟩) (by simp) _
 have HO3:Hid (OwnRs U1 w.heap.size A2 k2 R2):=by
  show OwnRs _ _ _ _ _
  rw[<-hU1]
  exact(HO2.out.setT b1 (by decide) (by decide) 9 _).setT (b1.set_ 9 _) (by decide) (by decide) 10 _
 have HB2:Hid (Below w.heap.size w U1):=by
  show Below _ _ _
  rw[<-hU1]
  exact(HB1.out.setCell (p:=⟨w.heap.size,9,none⟩) (Lf _) _).setCell (p:=⟨w.heap.size,10,none⟩) (Lf _) _
 clear hU1 b1 l1 q0 fr0
 have q0:=bb.cell
 have y0:=br.cell
 have fr0:=br.frozen
 have l1:=bb.lt
 have l2:=br.lt
 go_wp2_with fail
 have bz:=Jt br (.int .u8 c.tag) (.int .i64 c.most) (.int .i64 c.seg) (.int .i64 c.least) (.int .i64 c.den) (.int .i64 c.leafLow) (.int .i64 c.rootLow) (.int .i64 c.rootHigh) (.int .i64 c.leafHigh) (.slice A2 R2.length k2) (.int .u64 n)
 have z0:=bz.cell
 simp only[LB,Lm,Ll]at z0
 refine Li (v:= .agg #[.int .u8 c.tag,.int .i64 c.most,.int .i64 c.seg,.int .i64 c.least,.int .i64 c.den,.int .i64 c.leafLow,.int .i64 c.rootLow,.int .i64 c.rootHigh,.int .i64 c.leafHigh,.slice A2 R2.length k2,.int .u64 n]) (by simp[results,results97,go_sem,(z0 0),(z0 1),(z0 2),(z0 3),(z0 4),(z0 5),(z0 6),(z0 7),(z0 8),(z0 9),(z0 10)]) rfl ?_
 exact⟨A2,k2,R2,rfl,HL2.out,HO3.out.set11 br (by decide) (by decide) _ _ _ _ _ _ _ _ _ _ _,Ck HB2.out (MK _) _ _ _ _ _ _ _ _ _ _ _⟩
theorem Bi (B:Option Addr) (Rs:List Rm) (k:Nat) (c:Cfg) (n:Int) (w:World) (hB:RunsAt w B Rs) (hl:Rs.length<=1000000) (hrs:∀r∈Rs,r.l.length<=1000000):
  Calls prog 28 #[.agg (eD c B Rs.length k n)] w (CX c (aB Rs) n w):=by
 obtain⟨W0,hW0⟩:∃W0,(w.alloc (.cells #[.int .u8 c.tag,.int .i64 c.most,.int .i64 c.seg,.int .i64 c.least,.int .i64 c.den,.int .i64 c.leafLow,.int .i64 c.rootLow,.int .i64 c.rootHigh,.int .i64 c.leafHigh,.slice B Rs.length k,.int .u64 n] 40)).alloc (.cells #[.int .u8 0,.int .i64 0,.int .i64 0,.int .i64 0,.int .i64 0,.int .i64 0,.int .i64 0,.int .i64 0,.int .i64 0,.slice none 0 0,.int .u64 0] 40)=W0:=⟨_,rfl⟩
 have hb0:Below w.heap.size w W0:=by rw[<-hW0];exact((Lg _ _).alloc (Lf _) _).alloc (by simp) _
 have b0:Blk W0 w.heap.size 40 #[.int .u8 c.tag,.int .i64 c.most,.int .i64 c.seg,.int .i64 c.least,.int .i64 c.den,.int .i64 c.leafLow,.int .i64 c.rootLow,.int .i64 c.rootHigh,.int .i64 c.leafHigh,.slice B Rs.length k,.int .u64 n]:=by rw[<-hW0];exact(Blk.new _ _ _).alloc _
 have br0:Blk W0 (w.heap.size+1) 40 #[.int .u8 0,.int .i64 0,.int .i64 0,.int .i64 0,.int .i64 0,.int .i64 0,.int .i64 0,.int .i64 0,.int .i64 0,.slice none 0 0,.int .u64 0]:=by
  rw[<-hW0]
  have:=Blk.new (w.alloc (.cells #[.int .u8 c.tag,.int .i64 c.most,.int .i64 c.seg,.int .i64 c.least,.int .i64 c.den,.int .i64 c.leafLow,.int .i64 c.rootLow,.int .i64 c.rootHigh,.int .i64 c.leafHigh,.slice B Rs.length k,.int .u64 n] 40)) 40 #[.int .u8 0,.int .i64 0,.int .i64 0,.int .i64 0,.int .i64 0,.int .i64 0,.int .i64 0,.int .i64 0,.int .i64 0,.slice none 0 0,.int .u64 0]
  rwa [Ls]at this
 have HW0:=Lc hW0
 have HB:=Lc (hB.below hb0)
 have HB0:=Lc hb0
 have HC0:=Lc b0
 have HR0:=Lc br0
 have HB:=Lc hB
 have HHR:=Lc hrs
 clear hW0 hB hrs
 have q0:=b0.cell
 have y0:=br0.cell
 have fr0:=br0.frozen
 have l1:=b0.lt
 have l2:=br0.lt
 go_enter func28,ntmps28
 go_upto_region 1 with fail
 rw[HW0.out]
 go_region_with (go_at_call 52;refine(Aq B Rs k n _ (HB.out.below (aa hb0 (by first|exact(Lg _ _).drew|exact Lg _ _))) hl HHR.out).mono ?_;rintro e w5 ⟨A2,k2,R2,rfl,h51,h52,hb5⟩;have hb6:Below W0.heap.size W0 w5:=(by first|exact hb5|exact aa ((Lg _ _).drew) hb5);have d0:w5.cell? ⟨w.heap.size,0,none⟩=some (.int .u8 c.tag):=((aL hb6).1 _ _ l1).trans (q0 0);have d1:w5.cell? ⟨w.heap.size,1,none⟩=some (.int .i64 c.most):=((aL hb6).1 _ _ l1).trans (q0 1);have d2:w5.cell? ⟨w.heap.size,2,none⟩=some (.int .i64 c.seg):=((aL hb6).1 _ _ l1).trans (q0 2);have d3:w5.cell? ⟨w.heap.size,3,none⟩=some (.int .i64 c.least):=((aL hb6).1 _ _ l1).trans (q0 3);have d4:w5.cell? ⟨w.heap.size,4,none⟩=some (.int .i64 c.den):=((aL hb6).1 _ _ l1).trans (q0 4);have d5:w5.cell? ⟨w.heap.size,5,none⟩=some (.int .i64 c.leafLow):=((aL hb6).1 _ _ l1).trans (q0 5);have d6:w5.cell? ⟨w.heap.size,6,none⟩=some (.int .i64 c.rootLow):=((aL hb6).1 _ _ l1).trans (q0 6);have d7:w5.cell? ⟨w.heap.size,7,none⟩=some (.int .i64 c.rootHigh):=((aL hb6).1 _ _ l1).trans (q0 7);have d8:w5.cell? ⟨w.heap.size,8,none⟩=some (.int .i64 c.leafHigh):=((aL hb6).1 _ _ l1).trans (q0 8);have d9:w5.cell? ⟨w.heap.size,9,none⟩=some (.slice B Rs.length k):=((aL hb6).1 _ _ l1).trans (q0 9);have d10:w5.cell? ⟨w.heap.size,10,none⟩=some (.int .u64 n):=((aL hb6).1 _ _ l1).trans (q0 10);have b25:=br0.below hb6 l2;have e0:w5.cell? ⟨w.heap.size+1,0,none⟩=some (.int .u8 0):=b25.cell 0;have e1:w5.cell? ⟨w.heap.size+1,1,none⟩=some (.int .i64 0):=b25.cell 1;have e2:w5.cell? ⟨w.heap.size+1,2,none⟩=some (.int .i64 0):=b25.cell 2;have e3:w5.cell? ⟨w.heap.size+1,3,none⟩=some (.int .i64 0):=b25.cell 3;have e4:w5.cell? ⟨w.heap.size+1,4,none⟩=some (.int .i64 0):=b25.cell 4;have e5:w5.cell? ⟨w.heap.size+1,5,none⟩=some (.int .i64 0):=b25.cell 5;have e6:w5.cell? ⟨w.heap.size+1,6,none⟩=some (.int .i64 0):=b25.cell 6;have e7:w5.cell? ⟨w.heap.size+1,7,none⟩=some (.int .i64 0):=b25.cell 7;have e8:w5.cell? ⟨w.heap.size+1,8,none⟩=some (.int .i64 0):=b25.cell 8;have e9:w5.cell? ⟨w.heap.size+1,9,none⟩=some (.slice none 0 0):=b25.cell 9;have e10:w5.cell? ⟨w.heap.size+1,10,none⟩=some (.int .u64 0):=b25.cell 10;have ef0:=b25.frozen 0;have ef1:=b25.frozen 1;have ef2:=b25.frozen 2;have ef3:=b25.frozen 3;have ef4:=b25.frozen 4;have ef5:=b25.frozen 5;have ef6:=b25.frozen 6;have ef7:=b25.frozen 7;have ef8:=b25.frozen 8;have ef9:=b25.frozen 9;have ef10:=b25.frozen 10;have H51:=Lc h51;have H52:=Lc h52;have H6:=Lc hb6;clear h51 h52 hb5 hb6)
 all_goals
  go_wp2_with fail
  have bz:=Jt b25 (.int .u8 c.tag) (.int .i64 c.most) (.int .i64 c.seg) (.int .i64 c.least) (.int .i64 c.den) (.int .i64 c.leafLow) (.int .i64 c.rootLow) (.int .i64 c.rootHigh) (.int .i64 c.leafHigh) (.slice A2 R2.length k2) (.int .u64 n)
  have z0:=bz.cell
  simp only[LB,Lm,Ll]at z0
  refine Li (v:= .agg #[.int .u8 c.tag,.int .i64 c.most,.int .i64 c.seg,.int .i64 c.least,.int .i64 c.den,.int .i64 c.leafLow,.int .i64 c.rootLow,.int .i64 c.rootHigh,.int .i64 c.leafHigh,.slice A2 R2.length k2,.int .u64 n]) (by simp[results,results28,go_sem,(z0 0),(z0 1),(z0 2),(z0 3),(z0 4),(z0 5),(z0 6),(z0 7),(z0 8),(z0 9),(z0 10)]) rfl ?_
  exact⟨A2,k2,R2,rfl,H51.out,(H52.out.mono (aa hb0 (Lg _ _)).size).set11 b25 (by decide) (by decide) _ _ _ _ _ _ _ _ _ _ _,Ck (aa hb0 H6.out) (MK _) _ _ _ _ _ _ _ _ _ _ _⟩
theorem uL (B:Option Addr) (Rs:List Rm) (k:Nat) (c:Cfg) (n:Int) (w:World) (hB:RunsAt w B Rs) (hT:tot (aB Rs)<=1000000) (hl:Rs.length<=1000000) (hc:fA (aB Rs)=0):
  Calls prog 90 #[.agg (eD c B Rs.length k n)] w (dS 55 2 (jW (aB Rs)).length ((jW (aB Rs)).flatMap Pr.cells) w):=by
 obtain⟨W0,hW0⟩:∃W0,w.alloc (.cells #[.int .u8 c.tag,.int .i64 c.most,.int .i64 c.seg,.int .i64 c.least,.int .i64 c.den,.int .i64 c.leafLow,.int .i64 c.rootLow,.int .i64 c.rootHigh,.int .i64 c.leafHigh,.slice B Rs.length k,.int .u64 n] 40)=W0:=⟨_,rfl⟩
 have hb0:Below w.heap.size w W0:=by rw[<-hW0];exact(Lg _ _).alloc (Lf _) _
 have b0:Blk W0 w.heap.size 40 #[.int .u8 c.tag,.int .i64 c.most,.int .i64 c.seg,.int .i64 c.least,.int .i64 c.den,.int .i64 c.leafLow,.int .i64 c.rootLow,.int .i64 c.rootHigh,.int .i64 c.leafHigh,.slice B Rs.length k,.int .u64 n]:=by rw[<-hW0];exact Blk.new _ _ _
 have HW0:=Lc hW0
 have HB:=Lc (hB.below hb0)
 have HB0:=Lc hb0
 have HC0:=Lc b0
 have hp:jW (aB Rs)=au (bJ (iD Rs)):=by unfold jW;rw[if_pos hc,DW]
 have hal:=Em B Rs k n W0 HB.out hl (Jo (lI.1 hc)).1 hT
 rw[<-hp]at hal
 obtain⟨P,hP⟩:∃P,jW (aB Rs)=P:=⟨_,rfl⟩
 rw[hP]at hal
 rw[hP]
 have HAL:=Lc hal
 clear hW0 hB hal hp hP hc
 have q0:=b0.cell
 clear b0
 go_enter func90,ntmps90
 go_upto_region 1 with fail
 rw[HW0.out]
 go_wp2_with fail
 refine HAL.out.mono ?_
 rintro e w1 ⟨A1,c1,rfl,ho1,hb1⟩
 have HO1:=Lc (ay ho1 HB0.out.size)
 have HB1:=Lc (aa HB0.out hb1)
 clear ho1 hb1 q0
 go_wp2
 go_ret
 exact⟨A1,c1,rfl,HO1.out,HB1.out⟩
theorem Ik {c:Cfg} {L:Lv} {V:Int} (h:jr c L=V):(mK c=false->V=50)/\(mK c=true->kG L=false->V=8)/\(mK c=true->kG L=true->((c.most< (jW L).length∨2*((jW L).length:Int)+2< (tot L:Int))->V=8)/\(((jW L).length:Int)<=c.most->(tot L:Int)<=2*((jW L).length:Int)+2->V=0)):=by
 unfold jr iW at h
 have hm:=xz L
 refine⟨fun h1=>?_,fun h1 h2=>?_,fun h1 h2=>⟨fun h3=>?_,fun h3 h4=>?_⟩⟩
 ·rw[h1]at h;simpa using h.symm
 ·rw[h2]at hm
  rw[h1,if_pos rfl,if_pos rfl,if_neg (fun h5=>by rw[hm]at h5;simp at h5)]at h
  exact h.symm
 ·rw[h2]at hm
  rw[h1,if_pos rfl,if_pos rfl,if_neg (fun h5=>by omega)]at h
  exact h.symm
 ·rw[h2]at hm
  rw[h1,if_pos rfl,if_pos rfl,if_pos ⟨by rw[hm];rfl,h3,by omega⟩]at h
  exact h.symm
theorem yt (B:Option Addr) (Rs:List Rm) (k:Nat) (c:Cfg) (n:Int) (w:World) (hB:RunsAt w B Rs) (hT:tot (aB Rs)<=1000000) (hl:Rs.length<=1000000):
  Calls prog 102 #[.agg (eD c B Rs.length k n)] w fun r w'=>r= .returned (.int .i64 (jr c (aB Rs)))/\Below w.heap.size w w':=by
 obtain⟨W0,hW0⟩:∃W0,w.alloc (.cells #[.int .u8 c.tag,.int .i64 c.most,.int .i64 c.seg,.int .i64 c.least,.int .i64 c.den,.int .i64 c.leafLow,.int .i64 c.rootLow,.int .i64 c.rootHigh,.int .i64 c.leafHigh,.slice B Rs.length k,.int .u64 n] 40)=W0:=⟨_,rfl⟩
 have hb0:Below w.heap.size w W0:=by rw[<-hW0];exact(Lg _ _).alloc (Lf _) _
 have b0:Blk W0 w.heap.size 40 #[.int .u8 c.tag,.int .i64 c.most,.int .i64 c.seg,.int .i64 c.least,.int .i64 c.den,.int .i64 c.leafLow,.int .i64 c.rootLow,.int .i64 c.rootHigh,.int .i64 c.leafHigh,.slice B Rs.length k,.int .u64 n]:=by rw[<-hW0];exact Blk.new _ _ _
 have HW0:=Lc hW0
 have HB:=Lc (hB.below hb0)
 have HB0:=Lc hb0
 have HC0:=Lc b0
 have hmy:=fun W=>uC c W
 have hm6:=fun W (hW:Below W0.heap.size W0 W)=>Du B Rs k n W (HB.out.below hW) hT hl
 have hen:=fun W (hW:Below W0.heap.size W0 W)=>mG B Rs k n W (HB.out.below hW) hT hl
 have hal:=fun hc W (hW:Below W0.heap.size W0 W)=>uL B Rs k c n W (HB.out.below hW) hT hl hc
 obtain⟨V,hV⟩:∃V,jr c (aB Rs)=V:=⟨_,rfl⟩
 rw[hV]
 have hby:=Ik hV
 have hcm:=xz (aB Rs)
 have hPT:fA (aB Rs)=0->(jW (aB Rs)).length<=tot (aB Rs):=fun h=>by rw[vO h];exact vV
 obtain⟨K,hK⟩:∃K,mK c=K:=⟨_,rfl⟩
 obtain⟨M,hM⟩:∃M,kG (aB Rs)=M:=⟨_,rfl⟩
 obtain⟨P,hP⟩:∃P,jW (aB Rs)=P:=⟨_,rfl⟩
 obtain⟨T,hTT⟩:∃T,tot (aB Rs)=T:=⟨_,rfl⟩
 rw[hK]at hmy hby
 rw[hM]at hm6 hby hcm
 rw[hP]at hal hby hPT
 rw[hTT]at hen hby hPT hT
 have HMY:=Lc hmy
 have HM6:=Lc hm6
 have HEN:=Lc hen
 have HAL:=Lc hal
 have HBY:=Lc hby
 have HCM:=Lc hcm
 have HPT:=Lc hPT
 clear hW0 hB hmy hm6 hen hal hby hcm hV hK hM hP hTT hPT
 have q0:=b0.cell
 clear b0
 go_enter func102,ntmps102
 go_upto_region 1 with fail
 rw[HW0.out]
 go_wp2_with fail
 refine(HMY.out _).mono ?_
 rintro e w1 ⟨rfl,hb1⟩
 have HBX:=Lc (aa HB0.out hb1)
 have b1:=HC0.out.below hb1 HC0.out.lt
 have HC1:=Lc b1
 have HS1:=Lc hb1
 clear hb1 hb0 q0
 have q0:=b1.cell
 clear b1
 cases K with
 |false=>
  have HF:=Lc (HBY.out.1 rfl)
  go_wp2_with fail
  go_ret
  exact⟨by rw[HF.out];rfl,HBX.out⟩
 |true=>
 go_wp2_with fail
 refine(HM6.out _ HS1.out).mono ?_
 rintro e w2 ⟨rfl,hb2⟩
 have HBX:=Lc (aa HBX.out hb2)
 have b2:=HC1.out.below hb2 HC1.out.lt
 have HC2:=Lc b2
 have HS2:=Lc (aa HS1.out hb2)
 clear hb2 q0
 have q0:=b2.cell
 clear b2
 cases M with
 |false=>
  have HF:=Lc (HBY.out.2.1 (by first|trivial|rfl) (by first|trivial|rfl))
  go_wp2_with fail
  go_ret
  exact⟨by rw[HF.out];rfl,HBX.out⟩
 |true=>
 have hc0:fA (aB Rs)=0:=HCM.out
 have hpt:=HPT.out hc0
 go_wp2_with fail
 refine(HAL.out hc0 _ HS2.out).mono ?_
 clear hc0
 rintro e w3 ⟨A3,c3,rfl,ho3,hb3⟩
 have HBX:=Lc (aa HBX.out hb3)
 have b3:=HC2.out.below hb3 HC2.out.lt
 have HC3:=Lc b3
 have HS3:=Lc (aa HS2.out hb3)
 clear hb3 ho3 q0
 have q0:=b3.cell
 clear b3
 have hv:=HBY.out.2.2 (by first|trivial|rfl) (by first|trivial|rfl)
 have HV:=Lc hv
 clear hv
 by_cases h1:c.most< (P.length:Int)
 ·have HF:=Lc (HV.out.1 (.inl h1))
  go_wp2_with fail
  go_ret
  exact⟨by rw[HF.out];rfl,HBX.out⟩
 ·have hw1:IntKind.i64.wrap (2*(P.length:Int))=2*(P.length:Int):=Lh _ (by omega)
  have hw2:IntKind.i64.wrap (2*(P.length:Int)+2)=2*(P.length:Int)+2:=Lh _ (by omega)
  go_wp2_with fail
  refine(HEN.out _ HS3.out).mono ?_
  rintro e w4 ⟨rfl,hb4⟩
  have HBX:=Lc (aa HBX.out hb4)
  clear hb4 q0
  by_cases h2:2*(P.length:Int)+2< (T:Int)
  ·have HF:=Lc (HV.out.1 (.inr h2))
   go_wp2_with fail
   go_ret
   exact⟨by rw[HF.out];rfl,HBX.out⟩
  ·have HF:=Lc (HV.out.2 (by omega) (by omega))
   go_wp2_with fail
   go_ret
   exact⟨by rw[HF.out];rfl,HBX.out⟩
structure Ix where
 lev:Int
 mx:List Int
 ct:List Int
 mA:Option Addr
 cA:Option Addr
 mc:Nat
 cc:Nat
abbrev Ix.row (x:Ix):Array Value:=#[.int .i64 x.lev,.slice x.mA x.mx.length x.mc,.slice x.cA x.ct.length x.cc]
structure IxAt (w:World) (x:Ix):Prop where
 maxes:Sl w x.mA (x.mx.map iv)
 cnts:Sl w x.cA (x.ct.map iv)
theorem IxAt.below {w w':World} {x:Ix} (h:IxAt w x) (hb:Below w.heap.size w w'):IxAt w' x:=⟨h.maxes.below hb,h.cnts.below hb⟩
structure IxOk (x:Ix):Prop where
 ml:x.mx.length<=600
 cl:x.ct.length<=600
def iT (x y:Ix):Bool:=decide (x.lev=y.lev)&&decide (x.mx=y.mx)&&decide (x.ct=y.ct)
abbrev bV (c:Cfg) (s:Ss):Array Value:=#[.int .u8 c.tag,.int .i64 c.most,.int .i64 c.seg,.int .i64 c.least,.int .i64 c.den,.int .i64 c.leafLow,.int .i64 c.rootLow,.int .i64 c.rootHigh,.int .i64 c.leafHigh,.int .i64 s.seg,.slice s.wA s.ws.length s.wc,.slice s.kA s.ks.length s.kc,.slice s.vA s.vs.length s.vc,.slice s.cA s.cs.length s.cc,.int .u64 s.laid]
def mP (c d:Cfg) (s t:Ss):Bool:=J4 c d&&ja s t
abbrev bW (c:Cfg) (s:Ss) (x:Ix):Array Value:=#[.int .u8 c.tag,.int .i64 c.most,.int .i64 c.seg,.int .i64 c.least,.int .i64 c.den,.int .i64 c.leafLow,.int .i64 c.rootLow,.int .i64 c.rootHigh,.int .i64 c.leafHigh,.int .i64 s.seg,.slice s.wA s.ws.length s.wc,.slice s.kA s.ks.length s.kc,.slice s.vA s.vs.length s.vc,.slice s.cA s.cs.length s.cc,.int .u64 s.laid,.int .i64 x.lev,.slice x.mA x.mx.length x.mc,.slice x.cA x.ct.length x.cc]
def nD (c d:Cfg) (s t:Ss) (x y:Ix):Bool:=mP c d s t&&iT x y
theorem vM {f:FuncId} (hf:f=107∨f=60) (x y:Ix) (w:World) (hs:IxAt w x) (ht:IxAt w y) (ho:IxOk x) (hp:IxOk y):
  Calls prog f #[.agg x.row,.agg y.row] w fun r w'=>r= .returned (.bool (iT x y))/\Below w.heap.size w w':=by
 obtain⟨U,HU,HB0,hh,q1,q2⟩:=KS w 33 x.row 33 y.row
 have K0:=Lc (fun W (h:Below U.heap.size U W)=>wB x.mA y.mA x.mx y.mx x.mc y.mc W ((hs.below HB0.out).below h).maxes ((ht.below HB0.out).below h).maxes (by have:=ho.ml;omega) (by have:=hp.ml;omega))
 have J0:=Lc (fun W (h:Below U.heap.size U W)=>kr x.mA y.mA x.mx y.mx x.mc y.mc W ((hs.below HB0.out).below h).maxes ((ht.below HB0.out).below h).maxes (by have:=ho.ml;omega) (by have:=hp.ml;omega))
 have K1:=Lc (fun W (h:Below U.heap.size U W)=>CE x.cA y.cA x.ct y.ct x.cc y.cc W ((hs.below HB0.out).below h).cnts ((ht.below HB0.out).below h).cnts (by have:=ho.cl;omega) (by have:=hp.cl;omega))
 have J1:=Lc (fun W (h:Below U.heap.size U W)=>oo x.cA y.cA x.ct y.ct x.cc y.cc W ((hs.below HB0.out).below h).cnts ((ht.below HB0.out).below h).cnts (by have:=ho.cl;omega) (by have:=hp.cl;omega))
 obtain⟨R,hR⟩:∃R,(iT x y)=R:=⟨_,rfl⟩
 rw[hR]
 unfold iT at hR
 obtain⟨E0,hE⟩:∃b,decide (x.mx=y.mx)=b:=⟨_,rfl⟩
 rw[hE]at K0 J0 hR
 clear hE
 obtain⟨E1,hE⟩:∃b,decide (x.ct=y.ct)=b:=⟨_,rfl⟩
 rw[hE]at K1 J1 hR
 clear hE
 have HR:=Lc hR
 clear hR hs ht ho hp
 rcases hf with rfl|rfl
 ·go_enter func107,ntmps107
  exact iZ
 ·go_enter func60,ntmps60
  exact iZ
theorem wm {f:FuncId} (hf:f=92∨f=37) (c d:Cfg) (s t:Ss) (w:World) (hs:SsAt w s) (ht:SsAt w t) (ho:SsOk s) (hp:SsOk t):
  Calls prog f #[.agg (bV c s),.agg (bV d t)] w fun r w'=>r= .returned (.bool (mP c d s t))/\Below w.heap.size w w':=by
 obtain⟨U,HU,HB0,hh,q1,q2⟩:=KS w 31 (bV c s) 31 (bV d t)
 have K0:=Lc (fun W (h:Below U.heap.size U W)=>FX (.inl rfl) s t W ((hs.below HB0.out).below h) ((ht.below HB0.out).below h) ho hp)
 have J0:=Lc (fun W (h:Below U.heap.size U W)=>FX (.inr rfl) s t W ((hs.below HB0.out).below h) ((ht.below HB0.out).below h) ho hp)
 obtain⟨R,hR⟩:∃R,(mP c d s t)=R:=⟨_,rfl⟩
 rw[hR]
 unfold mP at hR
 obtain⟨E0,hE⟩:∃b,ja s t=b:=⟨_,rfl⟩
 rw[hE]at K0 J0 hR
 clear hE
 have heq:=fun W=>qw c d W
 obtain⟨E1,hE⟩:∃b,J4 c d=b:=⟨_,rfl⟩
 rw[hE]at heq hR
 clear hE
 have HR:=Lc hR
 clear hR hs ht ho hp
 rcases hf with rfl|rfl
 ·go_enter func92,ntmps92
  exact iZ
 ·go_enter func37,ntmps37
  exact iZ
theorem Ca {f:FuncId} (hf:f=93∨f=38) (c d:Cfg) (s t:Ss) (x y:Ix) (w:World) (hs:SsAt w s) (ht:SsAt w t) (hx:IxAt w x) (hy:IxAt w y) (ho:SsOk s) (hp:SsOk t) (hq:IxOk x) (hr:IxOk y):
  Calls prog f #[.agg (bW c s x),.agg (bW d t y)] w fun r w'=>r= .returned (.bool (nD c d s t x y))/\Below w.heap.size w w':=by
 obtain⟨U,HU,HB0,hh,q1,q2⟩:=KS w 35 (bW c s x) 35 (bW d t y)
 have K0:=Lc (fun W (h:Below U.heap.size U W)=>wm (.inl rfl) c d s t W ((hs.below HB0.out).below h) ((ht.below HB0.out).below h) ho hp)
 have J0:=Lc (fun W (h:Below U.heap.size U W)=>wm (.inr rfl) c d s t W ((hs.below HB0.out).below h) ((ht.below HB0.out).below h) ho hp)
 have K1:=Lc (fun W (h:Below U.heap.size U W)=>vM (.inl rfl) x y W ((hx.below HB0.out).below h) ((hy.below HB0.out).below h) hq hr)
 have J1:=Lc (fun W (h:Below U.heap.size U W)=>vM (.inr rfl) x y W ((hx.below HB0.out).below h) ((hy.below HB0.out).below h) hq hr)
 obtain⟨R,hR⟩:∃R,(nD c d s t x y)=R:=⟨_,rfl⟩
 rw[hR]
 unfold nD at hR
 obtain⟨E0,hE⟩:∃b,mP c d s t=b:=⟨_,rfl⟩
 rw[hE]at K0 J0 hR
 clear hE
 obtain⟨E1,hE⟩:∃b,iT x y=b:=⟨_,rfl⟩
 rw[hE]at K1 J1 hR
 clear hE
 have HR:=Lc hR
 clear hR hs ht hx hy ho hp hq hr
 rcases hf with rfl|rfl
 ·go_enter func93,ntmps93
  exact iZ
 ·go_enter func38,ntmps38
  exact iZ
theorem qf (c:Cfg) (s:Ss) (w:World):
  Calls prog 23 #[.agg (bV c s),.int .i64 300] w fun r w'=>r= .returned (.bool (fV s))/\Below w.heap.size w w':=by
 obtain⟨U,HU,HB0,hh,q1⟩:=bx1 w 31 (bV c s)
 have K0:=Lc (fun W (h:Below U.heap.size U W)=>yP s W)
 obtain⟨R,hR⟩:∃R,(fV s)=R:=⟨_,rfl⟩
 rw[hR]
 obtain⟨E0,hE⟩:∃b,fV s=b:=⟨_,rfl⟩
 rw[hE]at K0 hR
 clear hE
 have HR:=Lc hR
 clear hR
 go_enter func23,ntmps23
 exact iZ
def lC (x:Ix):Bool:=decide (600< x.mx.length)||decide (600< x.ct.length)
theorem wY (x:Ix) (w:World):
  Calls prog 48 #[.agg x.row] w fun r w'=>r= .returned (.bool (lC x))/\Below w.heap.size w w':=by
 obtain⟨U,HU,HB0,hh,q1⟩:=bx1 w 33 x.row
 obtain⟨R,hR⟩:∃R,(lC x)=R:=⟨_,rfl⟩
 rw[hR]
 unfold lC at hR
 have HR:=Lc hR
 clear hR
 go_enter func48,ntmps48
 exact iZ
theorem zl (c:Cfg) (s:Ss) (x:Ix) (w:World):
  Calls prog 24 #[.agg (bW c s x),.int .i64 300] w fun r w'=>r= .returned (.bool (fV s||lC x))/\Below w.heap.size w w':=by
 obtain⟨U,HU,HB0,hh,q1⟩:=bx1 w 35 (bW c s x)
 have K0:=Lc (fun W (h:Below U.heap.size U W)=>qf c s W)
 have K1:=Lc (fun W (h:Below U.heap.size U W)=>wY x W)
 obtain⟨R,hR⟩:∃R,(fV s||lC x)=R:=⟨_,rfl⟩
 rw[hR]
 obtain⟨E0,hE⟩:∃b,fV s=b:=⟨_,rfl⟩
 rw[hE]at K0 hR
 clear hE
 obtain⟨E1,hE⟩:∃b,lC x=b:=⟨_,rfl⟩
 rw[hE]at K1 hR
 clear hE
 have HR:=Lc hR
 clear hR
 go_enter func24,ntmps24
 exact iZ
theorem ae {w:World} {g:Nat} {t:TypeId} {row:Array Value} {cs:List Value} (h:Blk w g t row) (o n:Nat) (hc:(row.toList.drop o).take n=cs):w.rangeAt g o cs:=by
 intro j v hv
 rw[h.cell,<-hv,<-hc,Ni]
 by_cases hj:j< n
 ·rw[if_pos hj,List.getElem?_drop,Array.getElem?_toList]
 ·rw[<-hc,Ni,if_neg hj]at hv;cases hv
theorem bF:(prog.info? 31).map (·.size)=some 15:=by kernel_rfl
theorem ik:(prog.info? 35).map (·.size)=some 18:=by kernel_rfl
theorem iw:(prog.info? 40).map (·.size)=some 11:=by kernel_rfl
theorem Jq:Gn prog 31 15:=⟨_,underlying31,rfl,bF⟩
theorem JD:Gn prog 35 18:=⟨_,underlying35,rfl,ik⟩
theorem JI:Gn prog 40 11:=⟨_,underlying40,rfl,iw⟩
structure Mv where
 tag:Int
 ver:Int
 pc:Cfg
 ps:Ss
 bc:Cfg
 bs:Ss
 bx:Ix
 lc:Cfg
 lB:Option Addr
 lR:List Rm
 lk:Nat
 ln:Int
abbrev Mv.row (m : Mv) : Array Value := #[.int .u8 m.tag, .int .u64 m.ver, .int .u8 m.pc.tag, .int .i64 m.pc.most, .int .i64 m.pc.seg, .int .i64 m.pc.least, .int .i64 m.pc.den, .int .i64 m.pc.leafLow, .int .i64 m.pc.rootLow, .int .i64 m.pc.rootHigh, .int .i64 m.pc.leafHigh, .int .i64 m.ps.seg, .slice m.ps.wA m.ps.ws.length m.ps.wc, .slice m.ps.kA m.ps.ks.length m.ps.kc, .slice m.ps.vA m.ps.vs.length m.ps.vc, .slice m.ps.cA m.ps.cs.length m.ps.cc, .int .u64 m.ps.laid, .int .u8 m.bc.tag, .int .i64 m.bc.most, .int .i64 m.bc.seg, .int .i64 m.bc.least, .int .i64 m.bc.den, .int .i64 m.bc.leafLow, .int .i64 m.bc.rootLow, .int .i64 m.bc.rootHigh, .int .i64 m.bc.leafHigh, .int .i64 m.bs.seg, .slice m.bs.wA m.bs.ws.length m.bs.wc, .slice m.bs.kA m.bs.ks.length m.bs.kc, .slice m.bs.vA m.bs.vs.length m.bs.vc, .slice m.bs.cA m.bs.cs.length m.bs.cc, .int .u64 m.bs.laid, .int .i64 m.bx.lev, .slice m.bx.mA m.bx.mx.length m.bx.mc, .slice m.bx.cA m.bx.ct.length m.bx.cc, .int .u8 m.lc.tag, .int .i64 m.lc.most, .int .i64 m.lc.seg, .int .i64 m.lc.least, .int .i64 m.lc.den, .int .i64 m.lc.leafLow, .int .i64 m.lc.rootLow, .int .i64 m.lc.rootHigh, .int .i64 m.lc.leafHigh, .slice m.lB m.lR.length m.lk, .int .u64 m.ln]
structure MvAt (w:World) (m:Mv):Prop where
 pma:SsAt w m.ps
 cob:SsAt w m.bs
 ix:IxAt w m.bx
 log:RunsAt w m.lB m.lR
theorem MvAt.below {w w':World} {m:Mv} (h:MvAt w m) (hb:Below w.heap.size w w'):MvAt w' m:=⟨h.pma.below hb,h.cob.below hb,h.ix.below hb,RunsAt.below h.log hb⟩
structure MvOk (m:Mv):Prop where
 pma:SsOk m.ps
 cob:SsOk m.bs
 ix:IxOk m.bx
 log:m.lR.length+tot (aB m.lR)<=300
theorem gq {Rs:List Rm} (h1:Rs.length+tot (aB Rs)<=300):Rs.length<=1000000/\∀r∈Rs,r.l.length<=1000000:=by
 refine⟨by omega,fun r hr=>?_⟩
 have h5:=Am (List.mem_map.2 ⟨r.l,List.mem_map.2 ⟨r,hr,rfl⟩,rfl⟩:r.l.length∈((aB Rs).map List.length))
 unfold tot at h1
 omega
def fB (m n:Mv):Bool:=decide (m.tag=n.tag)&&decide (m.ver=n.ver)&&mP m.pc n.pc m.ps n.ps&&nD m.bc n.bc m.bs n.bs m.bx n.bx&&sH m.lc n.lc m.ln n.ln (aB m.lR) (aB n.lR)
theorem zz {f:FuncId} (hf:f=80∨f=10) (m n:Mv) (w:World) (hs:MvAt w m) (ht:MvAt w n) (ho:MvOk m) (hp:MvOk n):
  Calls prog f #[.agg m.row,.agg n.row] w fun r w'=>r= .returned (.bool (fB m n))/\Below w.heap.size w w':=by
 obtain⟨U,HU,HB0,hh,q1,q2⟩:=KS w 42 m.row 42 n.row
 have K0:=Lc (fun W (h:Below U.heap.size U W)=>wm (.inl rfl) m.pc n.pc m.ps n.ps W ((hs.below HB0.out).below h).pma ((ht.below HB0.out).below h).pma ho.pma hp.pma)
 have J0:=Lc (fun W (h:Below U.heap.size U W)=>wm (.inr rfl) m.pc n.pc m.ps n.ps W ((hs.below HB0.out).below h).pma ((ht.below HB0.out).below h).pma ho.pma hp.pma)
 have K1:=Lc (fun W (h:Below U.heap.size U W)=>Ca (.inl rfl) m.bc n.bc m.bs n.bs m.bx n.bx W ((hs.below HB0.out).below h).cob ((ht.below HB0.out).below h).cob ((hs.below HB0.out).below h).ix ((ht.below HB0.out).below h).ix ho.cob hp.cob ho.ix hp.ix)
 have J1:=Lc (fun W (h:Below U.heap.size U W)=>Ca (.inr rfl) m.bc n.bc m.bs n.bs m.bx n.bx W ((hs.below HB0.out).below h).cob ((ht.below HB0.out).below h).cob ((hs.below HB0.out).below h).ix ((ht.below HB0.out).below h).ix ho.cob hp.cob ho.ix hp.ix)
 have K2:=Lc (fun W (h:Below U.heap.size U W)=>D6 m.lc n.lc m.lB n.lB m.lR n.lR m.lR.length n.lR.length m.lk n.lk m.ln n.ln W rfl rfl ((hs.below HB0.out).below h).log ((ht.below HB0.out).below h).log (gq ho.log).1 (gq ho.log).2 (gq hp.log).2)
 have J2:=Lc (fun W (h:Below U.heap.size U W)=>AY m.lc n.lc m.lB n.lB m.lR n.lR m.lR.length n.lR.length m.lk n.lk m.ln n.ln W rfl rfl ((hs.below HB0.out).below h).log ((ht.below HB0.out).below h).log (gq ho.log).1 (gq ho.log).2 (gq hp.log).2)
 obtain⟨R,hR⟩:∃R,(fB m n)=R:=⟨_,rfl⟩
 rw[hR]
 unfold fB at hR
 obtain⟨E0,hE⟩:∃b,mP m.pc n.pc m.ps n.ps=b:=⟨_,rfl⟩
 rw[hE]at K0 J0 hR
 clear hE
 obtain⟨E1,hE⟩:∃b,nD m.bc n.bc m.bs n.bs m.bx n.bx=b:=⟨_,rfl⟩
 rw[hE]at K1 J1 hR
 clear hE
 obtain⟨E2,hE⟩:∃b,sH m.lc n.lc m.ln n.ln (aB m.lR) (aB n.lR)=b:=⟨_,rfl⟩
 rw[hE]at K2 J2 hR
 clear hE
 have p1:=Kr q1 2 (bV m.pc m.ps) Jq rfl
 have p2:=Kr q1 17 (bW m.bc m.bs m.bx) JD rfl
 have p3:=Kr q1 35 (eD m.lc m.lB m.lR.length m.lk m.ln) JI rfl
 have p4:=Kr q2 2 (bV n.pc n.ps) Jq rfl
 have p5:=Kr q2 17 (bW n.bc n.bs n.bx) JD rfl
 have p6:=Kr q2 35 (eD n.lc n.lB n.lR.length n.lk n.ln) JI rfl
 have HR:=Lc hR
 clear hR hs ht ho hp
 rcases hf with rfl|rfl
 ·go_enter func80,ntmps80
  exact iZ
 ·go_enter func10,ntmps10
  exact iZ
structure IxLike (s t:Ix):Prop where
 lev:t.lev=s.lev
 mx:t.mx=s.mx
 ct:t.ct=s.ct
def CJ (s:Ix) (w:World) (r:Ending) (w':World):Prop:=∃s2:Ix,r= .returned (.agg s2.row)/\IxLike s s2/\Held (fun k=>k< w.heap.size) (fun W=>IxAt W s2) w'/\Below w.heap.size w w'
theorem KX {w:World} {g:Nat} {S:Nat->Prop} (h:S g) (a b c:Value):Mod S w (((w.setCell ⟨g,0,none⟩ a).setCell ⟨g,1,none⟩ b).setCell ⟨g,2,none⟩ c):=(((Mod.refl S w).setCell (p:=⟨g,0,none⟩) h _).setCell (p:=⟨g,1,none⟩) h _).setCell (p:=⟨g,2,none⟩) h _
theorem KW {B g:Nat} {a w:World} (h:Below B a w) (hg:B<=g) (x0 x1 x2:Value):Below B a (((w.setCell ⟨g,0,none⟩ x0).setCell ⟨g,1,none⟩ x1).setCell ⟨g,2,none⟩ x2):=((h.setCell (p:=⟨g,0,none⟩) hg _).setCell (p:=⟨g,1,none⟩) hg _).setCell (p:=⟨g,2,none⟩) hg _
theorem jG {P:Prop} (h:P:=by
  iterate 14 apply Exists.intro
  refine⟨rfl,?_,?_,?_,?_,?_,?_,?_,?_,?_,?_,?_,?_,?_,?_,?_⟩
  ·first|exact HB.out|exact aa HB.out hb1|exact HB.out.setCell (p:=⟨w.heap.size,1,none⟩) (Lf _) _|exact HB.out.setCell (p:=⟨w.heap.size,2,none⟩) (Lf _) _
  ·first|exact HBK.out|exact HBK.out.below hb1 HBK.out.lt|exact(by simpa using HBK.out.set_ 1 (.slice A0 x.mx.length c0))|exact(by simpa using HBK.out.set_ 2 (.slice A1 x.ct.length c1))
  ·first|exact HRS.out|exact HRS.out.below hb1 HRS.out.lt|exact(HRS.out.far (p:=⟨w.heap.size,1,none⟩) (by simp;done) _)|exact(HRS.out.far (p:=⟨w.heap.size,2,none⟩) (by simp;done) _)
  ·first|exact F0.out|exact fun _=>rfl
  ·first|exact F1.out|exact fun _=>rfl
  ·first|exact F2.out|exact fun _=>⟨rfl,hsl⟩|exact(fun h=>⟨(F2.out (by simpa using h)).1,(F2.out (by simpa using h)).2.ext hb1⟩)|exact(fun h=>⟨rfl,zz2.out.step (cK (X:=(fun k=>k< w.heap.size+2)) (by show w.heap.size< w.heap.size+2;omega))⟩)|exact(fun h=>⟨(F2.out (by simpa using h)).1,(F2.out (by simpa using h)).2.step (cK (X:=(fun k=>k< w.heap.size+2)) (by show w.heap.size< w.heap.size+2;omega))⟩)
  ·first|exact F3.out|exact fun _=>rfl
  ·first|exact F4.out|exact fun _=>rfl
  ·first|exact F5.out|exact fun _=>⟨rfl,hsl⟩|exact(fun h=>⟨(F5.out (by simpa using h)).1,(F5.out (by simpa using h)).2.ext hb1⟩)|exact(fun h=>⟨(F5.out (by simpa using h)).1,(F5.out (by simpa using h)).2.step (cK (X:=(fun k=>k< w.heap.size+2)) (by show w.heap.size< w.heap.size+2;omega))⟩)|exact(fun h=>⟨rfl,zz5.out.step (cK (X:=(fun k=>k< w.heap.size+2)) (by show w.heap.size< w.heap.size+2;omega))⟩)
  ·first|exact F6.out|exact fun _=>rfl
  ·first|(intro h;have hh:=F7.out (by simpa using h);exact⟨hh.1,by simp[hh.2.1],by simp[hh.2.2]⟩;done)|exact(fun h=>absurd (by simpa using h) (by rw[hs0];exact Ld))|exact(fun _=>⟨rfl,by simp[hl2],by simp[hlld]⟩)
  ·first|exact F8.out|exact fun _=>rfl
  ·first|(intro h;have hh:=F9.out (by simpa using h);exact⟨hh.1,by simp[hh.2.1],by simp[hh.2.2]⟩;done)|exact(fun h=>absurd (by simpa using h) (by rw[hs1];exact Ld))|exact(fun _=>⟨rfl,by simp[hl5],by simp[hlld]⟩)
  ·first|exact O0.out|exact fun _=>rfl|(intro h;refine absurd h ?_;simp;done;done)
  ·first|exact O1.out|exact fun _=>rfl|(intro h;refine absurd h ?_;simp;done;done)):P:=h
theorem Bt (x:Ix) (w:World) (hs:IxAt w x) (ho:IxOk x):Calls prog 110 #[.agg x.row] w (CJ x w):=by
 have HS:=Lc hs
 have HO:=Lc ho
 clear hs ho
 obtain⟨W0,hW0⟩:∃W0,(w.alloc (.cells x.row 33)).alloc (.cells #[.int .i64 0,.slice none 0 0,.slice none 0 0] 33)=W0:=⟨_,rfl⟩
 have hb0:Below w.heap.size w W0:=by rw[<-hW0];exact((Lg _ _).alloc (Lf _) _).alloc (by simp) _
 have b0:Blk W0 w.heap.size 33 #[.int .i64 x.lev,.slice x.mA x.mx.length x.mc,.slice x.cA x.ct.length x.cc]:=by rw[<-hW0];exact(Blk.new _ _ _).alloc _
 have br0:Blk W0 (w.heap.size+1) 33 #[.int .i64 0,.slice none 0 0,.slice none 0 0]:=by
  rw[<-hW0]
  have:=Blk.new (w.alloc (.cells x.row 33)) 33 #[.int .i64 0,.slice none 0 0,.slice none 0 0]
  rwa [Ls]at this
 have HW0:=Lc hW0
 have HB0:=Lc hb0
 have HC0:=Lc b0
 have HR0:=Lc br0
 clear hW0 hb0 b0 br0
 go_enter func110,ntmps110
 go_upto_region 1 with fail
 rw[HW0.out]
 refine aM (by kernel_rfl) (by kernel_rfl) (fun L a W=>∃(t3 t4 t5 t6 t7 t8 t9 t10:Value) (A0 A1:Option Addr) (c0 c1:Nat) (x0 x1:Value),a=⟨#[(.agg x.row),(.pointer (some ⟨w.heap.size,0,none⟩)),(.pointer (some ⟨w.heap.size+1,0,none⟩)),t3,t4,t5,t6,t7,t8,t9,t10,undef],[]⟩/\Below w.heap.size w W/\Blk W w.heap.size 33 #[.int .i64 x.lev,x0,x1]/\Blk W (w.heap.size+1) 33 #[.int .i64 0,.slice none 0 0,.slice none 0 0]/\(L 0=true->t3= .pointer (some ⟨w.heap.size,1,none⟩))/\(L 1=true->t4= .slice x.mA x.mx.length x.mc)/\(L 2=true->t5= .slice A0 x.mx.length c0/\Held (fun k=>k< w.heap.size+2) (fun W=>Sl W A0 (x.mx.map iv)) W)/\(L 3=true->t6= .pointer (some ⟨w.heap.size,2,none⟩))/\(L 4=true->t7= .slice x.cA x.ct.length x.cc)/\(L 5=true->t8= .slice A1 x.ct.length c1/\Held (fun k=>k< w.heap.size+2) (fun W=>Sl W A1 (x.ct.map iv)) W)/\(L 6=true->t9= .pointer (some ⟨w.heap.size,1,none⟩))/\(L 7=true->x0= .slice A0 x.mx.length c0/\L 2=true/\L 1=true)/\(L 8=true->t10= .pointer (some ⟨w.heap.size,2,none⟩))/\(L 9=true->x1= .slice A1 x.ct.length c1/\L 5=true/\L 4=true)/\(L 7=false->x0= .slice x.mA x.mx.length x.mc)/\(L 9=false->x1= .slice x.cA x.ct.length x.cc)) ?h0 ?hstep ?hend
 case h0=>exact⟨undef,undef,undef,undef,undef,undef,undef,undef,none,none,0,0,.slice x.mA x.mx.length x.mc,.slice x.cA x.ct.length x.cc,rfl,HB0.out.drew,HC0.out,HR0.out,fun h=>absurd h Ld,fun h=>absurd h Ld,fun h=>absurd h Ld,fun h=>absurd h Ld,fun h=>absurd h Ld,fun h=>absurd h Ld,fun h=>absurd h Ld,fun h=>absurd h Ld,fun h=>absurd h Ld,fun h=>absurd h Ld,fun _=>rfl,fun _=>rfl⟩
 case hend=>
  rintro L a W hall ⟨t3,t4,t5,t6,t7,t8,t9,t10,A0,A1,c0,c1,x0,x1,rfl,hb,hbk,hrs,f0,f1,f2,f3,f4,f5,f6,f7,f8,f9,o0,o1⟩
  have z0:=f0 (hall 0 (by decide))
  have z1:=f1 (hall 1 (by decide))
  have z2:=f2 (hall 2 (by decide))
  have z3:=f3 (hall 3 (by decide))
  have z4:=f4 (hall 4 (by decide))
  have z5:=f5 (hall 5 (by decide))
  have z6:=f6 (hall 6 (by decide))
  have z7:=f7 (hall 7 (by decide))
  have z8:=f8 (hall 8 (by decide))
  have z9:=f9 (hall 9 (by decide))
  clear hall f0 f1 f2 f3 f4 f5 f6 f7 f8 f9 o0 o1
  obtain rfl:=z7.1
  obtain rfl:=z9.1
  have HE0:=Lc z2.2
  have HE1:=Lc z5.2
  have HBB:=Lc hb
  clear z0 z1 z2 z3 z4 z5 z6 z7 z8 z9 hb
  have q0:W.cell? ⟨w.heap.size,0,none⟩=some (.int .i64 x.lev):=hbk.cell 0
  have q1:W.cell? ⟨w.heap.size,1,none⟩=some (.slice A0 x.mx.length c0):=hbk.cell 1
  have q2:W.cell? ⟨w.heap.size,2,none⟩=some (.slice A1 x.ct.length c1):=hbk.cell 2
  have p0:W.cell? ⟨w.heap.size+1,0,none⟩=some (.int .i64 0):=hrs.cell 0
  have r0:=hrs.frozen 0
  have p1:W.cell? ⟨w.heap.size+1,1,none⟩=some (.slice none 0 0):=hrs.cell 1
  have r1:=hrs.frozen 1
  have p2:W.cell? ⟨w.heap.size+1,2,none⟩=some (.slice none 0 0):=hrs.cell 2
  have r2:=hrs.frozen 2
  have lg:=hrs.lt
  have lg0:=hbk.lt
  clear hbk hrs
  go_wp2_with fail
  refine Li (v:= .agg #[.int .i64 x.lev,.slice A0 x.mx.length c0,.slice A1 x.ct.length c1]) (by simp[results,results110,go_sem,p0,p1,p2,q0,q1,q2]) rfl ?_
  refine⟨⟨x.lev,x.mx,x.ct,A0,A1,c0,c1⟩,rfl,⟨rfl,rfl,rfl⟩,?_,KW HBB.out (MK _) _ _ _⟩
  exact Held.join (X:=(fun k=>k< w.heap.size+2)) (fun W2 h2=>⟨HE0.out W2 h2,HE1.out W2 h2⟩) (KX (g:=w.heap.size+1) (S:=(fun k=>k< w.heap.size+2)) (by show w.heap.size+1< w.heap.size+2;omega) _ _ _) (fun k hk hx=>by show k< w.heap.size+2;have:k< w.heap.size:=hx;omega)
 case hstep=>
  rintro L a W i o ho hLi hdep ⟨t3,t4,t5,t6,t7,t8,t9,t10,A0,A1,c0,c1,x0,x1,rfl,hb,hbk,hrs,f0,f1,f2,f3,f4,f5,f6,f7,f8,f9,o0,o1⟩
  have F0:=Lc f0
  have F1:=Lc f1
  have F2:=Lc f2
  have F3:=Lc f3
  have F4:=Lc f4
  have F5:=Lc f5
  have F6:=Lc f6
  have F7:=Lc f7
  have F8:=Lc f8
  have F9:=Lc f9
  have O0:=Lc o0
  have O1:=Lc o1
  clear f0 f1 f2 f3 f4 f5 f6 f7 f8 f9 o0 o1
  have HLi:=Lc hLi
  clear hLi
  have HB:=Lc hb
  have HBK:=Lc hbk
  have HRS:=Lc hrs
  clear hb hbk hrs
  match i,ho with
  |0,ho=>
   obtain rfl:=Le ho
   clear hdep
   refine Lj rfl (fun K1 hK1=>?_)
   have hK:=Lc hK1
   clear hK1
   go_wp2_with fail
   refine hK.out _ _ ?_;exact jG
  |1,ho=>
   obtain rfl:=Le ho
   have hl0:=hdep ⟨0,.data⟩ (by simp) rfl
   have z0:=F0.out hl0
   obtain rfl:=z0
   have hs0:L 7=false:=by
    cases h:L 7 with
    |false=>rfl
    |true=>exact absurd ((F7.out h).2.2) (by rw[HLi.out];exact Ld)
   clear hdep
   obtain rfl:=O0.out hs0
   have q0:W.cell? ⟨w.heap.size,1,none⟩=some (.slice x.mA x.mx.length x.mc):=HBK.out.cell 1
   refine Lj rfl (fun K1 hK1=>?_)
   have hK:=Lc hK1
   clear hK1
   go_wp2_with fail
   refine hK.out _ _ ?_;exact jG
  |2,ho=>
   obtain rfl:=Le ho
   have hl1:=hdep ⟨1,.data⟩ (by simp) rfl
   have z1:=F1.out hl1
   obtain rfl:=z1
   have hs0:L 7=false:=by
    cases h:L 7 with
    |false=>rfl
    |true=>exact absurd ((F7.out h).2.1) (by rw[HLi.out];exact Ld)
   clear hdep
   refine Lj rfl (fun K1 hK1=>?_)
   have hK:=Lc hK1
   clear hK1
   go_wp2_with (go_at_call 127;refine(mW x.mA x.mx x.mc W (HS.out.maxes.below HB.out) (Lt HO.out.ml (by decide))).mono ?_;rintro e1 W1 ⟨A',c',rfl,ho',hb1⟩)
   have hsl:=aS (eH (X:=(fun k=>k< w.heap.size+2)) ho' (fun k hk hx=>by have:=HBK.out.lt;have:=HRS.out.lt;omega)) (fun W2 h2=>aA h2)
   refine hK.out _ _ ?_;exact jG
  |3,ho=>
   obtain rfl:=Le ho
   clear hdep
   refine Lj rfl (fun K1 hK1=>?_)
   have hK:=Lc hK1
   clear hK1
   go_wp2_with fail
   refine hK.out _ _ ?_;exact jG
  |4,ho=>
   obtain rfl:=Le ho
   have hl3:=hdep ⟨3,.data⟩ (by simp) rfl
   have z3:=F3.out hl3
   obtain rfl:=z3
   have hs1:L 9=false:=by
    cases h:L 9 with
    |false=>rfl
    |true=>exact absurd ((F9.out h).2.2) (by rw[HLi.out];exact Ld)
   clear hdep
   obtain rfl:=O1.out hs1
   have q0:W.cell? ⟨w.heap.size,2,none⟩=some (.slice x.cA x.ct.length x.cc):=HBK.out.cell 2
   refine Lj rfl (fun K1 hK1=>?_)
   have hK:=Lc hK1
   clear hK1
   go_wp2_with fail
   refine hK.out _ _ ?_;exact jG
  |5,ho=>
   obtain rfl:=Le ho
   have hl4:=hdep ⟨4,.data⟩ (by simp) rfl
   have z4:=F4.out hl4
   obtain rfl:=z4
   have hs1:L 9=false:=by
    cases h:L 9 with
    |false=>rfl
    |true=>exact absurd ((F9.out h).2.1) (by rw[HLi.out];exact Ld)
   clear hdep
   refine Lj rfl (fun K1 hK1=>?_)
   have hK:=Lc hK1
   clear hK1
   go_wp2_with (go_at_call 128;refine(sJ x.cA x.ct x.cc W (HS.out.cnts.below HB.out) (Lt HO.out.cl (by decide))).mono ?_;rintro e1 W1 ⟨A',c',rfl,ho',hb1⟩)
   have hsl:=aS (eH (X:=(fun k=>k< w.heap.size+2)) ho' (fun k hk hx=>by have:=HBK.out.lt;have:=HRS.out.lt;omega)) (fun W2 h2=>aA h2)
   refine hK.out _ _ ?_;exact jG
  |6,ho=>
   obtain rfl:=Le ho
   clear hdep
   refine Lj rfl (fun K1 hK1=>?_)
   have hK:=Lc hK1
   clear hK1
   go_wp2_with fail
   refine hK.out _ _ ?_;exact jG
  |7,ho=>
   obtain rfl:=Le ho
   have hl6:=hdep ⟨6,.data⟩ (by simp) rfl
   have z6:=F6.out hl6
   obtain rfl:=z6
   have hl2:=hdep ⟨2,.data⟩ (by simp) rfl
   have z2:=F2.out hl2
   have zz2:=Lc z2.2
   obtain rfl:=z2.1
   clear z2
   have hlld:=hdep ⟨1,.phase⟩ (by simp) rfl
   clear hdep
   have q0:W.cell? ⟨w.heap.size,1,none⟩=some x0:=HBK.out.cell 1
   have r0:=HBK.out.frozen 1
   have lg:=HBK.out.lt
   refine Lj rfl (fun K1 hK1=>?_)
   have hK:=Lc hK1
   clear hK1
   go_wp2_with fail
   refine hK.out _ _ ?_;exact jG
  |8,ho=>
   obtain rfl:=Le ho
   clear hdep
   refine Lj rfl (fun K1 hK1=>?_)
   have hK:=Lc hK1
   clear hK1
   go_wp2_with fail
   refine hK.out _ _ ?_;exact jG
  |9,ho=>
   obtain rfl:=Le ho
   have hl8:=hdep ⟨8,.data⟩ (by simp) rfl
   have z8:=F8.out hl8
   obtain rfl:=z8
   have hl5:=hdep ⟨5,.data⟩ (by simp) rfl
   have z5:=F5.out hl5
   have zz5:=Lc z5.2
   obtain rfl:=z5.1
   clear z5
   have hlld:=hdep ⟨4,.phase⟩ (by simp) rfl
   clear hdep
   have q0:W.cell? ⟨w.heap.size,2,none⟩=some x1:=HBK.out.cell 2
   have r0:=HBK.out.frozen 2
   have lg:=HBK.out.lt
   refine Lj rfl (fun K1 hK1=>?_)
   have hK:=Lc hK1
   clear hK1
   go_wp2_with fail
   refine hK.out _ _ ?_;exact jG
def dn (row:Array Value) (o:Nat):List Value->Array Value
 |[]=>row
 |v::r=>dn (row.setIfInBounds o v) (o+1) r
theorem Blk.setCells {g:Nat} {t:TypeId}:∀(vs:List Value) (o:Nat) (w:World) (row:Array Value),Blk w g t row->Blk (w.setCells g o vs) g t (dn row o vs)
 |[],_,_,_,h=>h
 |v::r,o,w,row,h=>by
  rw[World.setCells]
  exact Blk.setCells r (o+1) _ _ (h.set_ o v)
theorem Blk.setCells_far {g b:Nat} {t:TypeId} (hg:g≠b):∀(vs:List Value) (o:Nat) (w:World) (row:Array Value),Blk w g t row->Blk (w.setCells b o vs) g t row
 |[],_,_,_,h=>h
 |v::r,o,w,row,h=>by
  rw[World.setCells]
  exact Blk.setCells_far hg r (o+1) _ _ (h.far (p:=⟨b,o,none⟩) hg v)
theorem bg {S:Nat->Prop} {g:Nat} (hg:S g):∀(vs:List Value) (o:Nat) (w:World),Mod S w (w.setCells g o vs)
 |[],_,w=>Mod.refl S w
 |v::r,o,w=>by
  rw[World.setCells]
  exact(cK hg).trans (bg hg r (o+1) _)
theorem aR {B g:Nat} {a:World} (hg:B<=g):∀(vs:List Value) (o:Nat) (w:World),Below B a w->Below B a (w.setCells g o vs)
 |[],_,_,h=>h
 |v::r,o,w,h=>by
  rw[World.setCells]
  exact aR hg r (o+1) _ (h.setCell (p:=⟨g,o,none⟩) hg v)
theorem bI {w:World} {g:Nat} {t:TypeId} {row:Array Value} (h:Blk w g t row) (o n:Nat) (hn:o+n<=row.size):w.there g o n:=by
 intro j hj
 refine⟨?_,h.frozen _⟩
 rw[h.cell,Array.getElem?_eq_getElem (by omega)]
 rfl
theorem eQ:(prog.info? 29).map (·.size)=some 6:=by kernel_rfl
def CR (c:Cfg) (s:Ss) (w:World) (r:Ending) (w':World):Prop:=∃s2:Ss,r= .returned (.agg (bV c s2))/\SsLike s s2/\Held (fun k=>k< w.heap.size) (fun W=>SsAt W s2) w'/\Below w.heap.size w w'
theorem rV (c:Cfg) (s:Ss) (w:World) (hs:SsAt w s) (ho:SsOk s):Calls prog 95 #[.agg (bV c s)] w (CR c s w):=by
 obtain⟨W0,hW0⟩:∃W0,(w.alloc (.cells (bV c s) 31)).alloc (.cells #[.int .u8 0,.int .i64 0,.int .i64 0,.int .i64 0,.int .i64 0,.int .i64 0,.int .i64 0,.int .i64 0,.int .i64 0,.int .i64 0,.slice none 0 0,.slice none 0 0,.slice none 0 0,.slice none 0 0,.int .u64 0] 31)=W0:=⟨_,rfl⟩
 have hb0:Below w.heap.size w W0:=by rw[<-hW0];exact((Lg _ _).alloc (Lf _) _).alloc (by simp) _
 have b0:Blk W0 w.heap.size 31 #[.int .u8 c.tag,.int .i64 c.most,.int .i64 c.seg,.int .i64 c.least,.int .i64 c.den,.int .i64 c.leafLow,.int .i64 c.rootLow,.int .i64 c.rootHigh,.int .i64 c.leafHigh,.int .i64 s.seg,.slice s.wA s.ws.length s.wc,.slice s.kA s.ks.length s.kc,.slice s.vA s.vs.length s.vc,.slice s.cA s.cs.length s.cc,.int .u64 s.laid]:=by rw[<-hW0];exact(Blk.new _ _ _).alloc _
 have br0:Blk W0 (w.heap.size+1) 31 #[.int .u8 0,.int .i64 0,.int .i64 0,.int .i64 0,.int .i64 0,.int .i64 0,.int .i64 0,.int .i64 0,.int .i64 0,.int .i64 0,.slice none 0 0,.slice none 0 0,.slice none 0 0,.slice none 0 0,.int .u64 0]:=by
  rw[<-hW0]
  have:=Blk.new (w.alloc (.cells (bV c s) 31)) 31 #[.int .u8 0,.int .i64 0,.int .i64 0,.int .i64 0,.int .i64 0,.int .i64 0,.int .i64 0,.int .i64 0,.int .i64 0,.int .i64 0,.slice none 0 0,.slice none 0 0,.slice none 0 0,.slice none 0 0,.int .u64 0]
  rwa [Ls]at this
 have HTW:=Lc (uA s W0 (hs.below hb0) ho)
 have HW0:=Lc hW0
 have HB0:=Lc hb0
 have HC0:=Lc b0
 have HR0:=Lc br0
 clear hW0 hb0 b0 br0 hs ho
 go_enter func95,ntmps95
 go_upto_region 1 with fail
 rw[HW0.out]
 repeat (first|refine LK rfl 29 (.tmp 3) rfl w.heap.size 9 rfl [.int .i64 s.seg,.slice s.wA s.ws.length s.wc,.slice s.kA s.ks.length s.kc,.slice s.vA s.vs.length s.vc,.slice s.cA s.cs.length s.cc,.int .u64 s.laid] _ (ae HC0.out 9 6 rfl) underlying29 rfl eQ ?_|go_values|go_skip|go_guarded|go_step|go_upon)
 refine HTW.out.mono ?_
 rintro e w1 ⟨s2,rfl,hl2,hh2,hb1⟩
 have HL2:=Lc hl2
 have HC1:=Lc (HC0.out.below hb1 HC0.out.lt)
 have HR1:=Lc (HR0.out.below hb1 HR0.out.lt)
 have HB1:=Lc (aa HB0.out hb1)
 have hsz:w.heap.size+2<=W0.heap.size:=by have:=HR0.out.lt;omega
 have HH2:=Lc (Held.join (Y:=(fun k=>k< w.heap.size+2)) hh2 (Mod.refl _ _) (fun k _ hx=>Nat.lt_of_lt_of_le hx hsz))
 clear hl2 hh2 hb1 hsz HTW
 try dsimp only[]
 iterate 9 (first|refine wpList_store_mid rfl 29 (.tmp 6) (.tmp 5) rfl w.heap.size 9 #[.int .i64 s2.seg,.slice s2.wA s2.ws.length s2.wc,.slice s2.kA s2.ks.length s2.kc,.slice s2.vA s2.vs.length s2.vc,.slice s2.cA s2.cs.length s2.cc,.int .u64 s2.laid] rfl rfl (bI HC1.out 9 6 (by simp)) eQ (LH (by simp[Value.oneCell'])) ?_|go_values|go_skip|go_guarded|go_step|go_upon)
 obtain⟨W2,hW2⟩:∃W,w1.setCells w.heap.size 9 (#[.int .i64 s2.seg,.slice s2.wA s2.ws.length s2.wc,.slice s2.kA s2.ks.length s2.kc,.slice s2.vA s2.vs.length s2.vc,.slice s2.cA s2.cs.length s2.cc,.int .u64 s2.laid]:Array Value).toList=W:=⟨_,rfl⟩
 have HC2:=Lc (show Blk W2 w.heap.size 31 #[.int .u8 c.tag,.int .i64 c.most,.int .i64 c.seg,.int .i64 c.least,.int .i64 c.den,.int .i64 c.leafLow,.int .i64 c.rootLow,.int .i64 c.rootHigh,.int .i64 c.leafHigh,.int .i64 s2.seg,.slice s2.wA s2.ws.length s2.wc,.slice s2.kA s2.ks.length s2.kc,.slice s2.vA s2.vs.length s2.vc,.slice s2.cA s2.cs.length s2.cc,.int .u64 s2.laid]from by rw[<-hW2];simpa[dn]using Blk.setCells (#[.int .i64 s2.seg,.slice s2.wA s2.ws.length s2.wc,.slice s2.kA s2.ks.length s2.kc,.slice s2.vA s2.vs.length s2.vc,.slice s2.cA s2.cs.length s2.cc,.int .u64 s2.laid]:Array Value).toList 9 _ _ HC1.out)
 have HR2:=Lc (show Blk W2 (w.heap.size+1) 31 #[.int .u8 0,.int .i64 0,.int .i64 0,.int .i64 0,.int .i64 0,.int .i64 0,.int .i64 0,.int .i64 0,.int .i64 0,.int .i64 0,.slice none 0 0,.slice none 0 0,.slice none 0 0,.slice none 0 0,.int .u64 0]from by rw[<-hW2];exact Blk.setCells_far (by simp) _ 9 _ _ HR1.out)
 have HB2:=Lc (show Below w.heap.size w W2 from by rw[<-hW2];exact aR (Lf _) _ 9 _ HB1.out)
 have HH3:=Lc (show Held (fun k=>k< w.heap.size+2) (fun W=>SsAt W s2) W2 from by rw[<-hW2];exact HH2.out.step (bg (by show w.heap.size< w.heap.size+2;omega) _ 9 _))
 rw[hW2]
 clear hW2 HC1 HR1 HB1 HH2 HC0 HR0 HB0
 go_step
 refine LK rfl 31 (.tmp 1) rfl w.heap.size 0 rfl [.int .u8 c.tag,.int .i64 c.most,.int .i64 c.seg,.int .i64 c.least,.int .i64 c.den,.int .i64 c.leafLow,.int .i64 c.rootLow,.int .i64 c.rootHigh,.int .i64 c.leafHigh,.int .i64 s2.seg,.slice s2.wA s2.ws.length s2.wc,.slice s2.kA s2.ks.length s2.kc,.slice s2.vA s2.vs.length s2.vc,.slice s2.cA s2.cs.length s2.cc,.int .u64 s2.laid] _ (ae HC2.out 0 15 rfl) underlying31 rfl bF ?_
 refine wpList_store_mid rfl 31 (.tmp 2) (.tmp 7) rfl (w.heap.size+1) 0 #[.int .u8 c.tag,.int .i64 c.most,.int .i64 c.seg,.int .i64 c.least,.int .i64 c.den,.int .i64 c.leafLow,.int .i64 c.rootLow,.int .i64 c.rootHigh,.int .i64 c.leafHigh,.int .i64 s2.seg,.slice s2.wA s2.ws.length s2.wc,.slice s2.kA s2.ks.length s2.kc,.slice s2.vA s2.vs.length s2.vc,.slice s2.cA s2.cs.length s2.cc,.int .u64 s2.laid] rfl rfl (bI HR2.out 0 15 (by simp)) bF (LH (by simp[Value.oneCell'])) ?_
 obtain⟨W3,hW3⟩:∃W,W2.setCells (w.heap.size+1) 0 (#[.int .u8 c.tag,.int .i64 c.most,.int .i64 c.seg,.int .i64 c.least,.int .i64 c.den,.int .i64 c.leafLow,.int .i64 c.rootLow,.int .i64 c.rootHigh,.int .i64 c.leafHigh,.int .i64 s2.seg,.slice s2.wA s2.ws.length s2.wc,.slice s2.kA s2.ks.length s2.kc,.slice s2.vA s2.vs.length s2.vc,.slice s2.cA s2.cs.length s2.cc,.int .u64 s2.laid]:Array Value).toList=W:=⟨_,rfl⟩
 have HR3:=Lc (show Blk W3 (w.heap.size+1) 31 #[.int .u8 c.tag,.int .i64 c.most,.int .i64 c.seg,.int .i64 c.least,.int .i64 c.den,.int .i64 c.leafLow,.int .i64 c.rootLow,.int .i64 c.rootHigh,.int .i64 c.leafHigh,.int .i64 s2.seg,.slice s2.wA s2.ws.length s2.wc,.slice s2.kA s2.ks.length s2.kc,.slice s2.vA s2.vs.length s2.vc,.slice s2.cA s2.cs.length s2.cc,.int .u64 s2.laid]from by rw[<-hW3];simpa[dn]using Blk.setCells (#[.int .u8 c.tag,.int .i64 c.most,.int .i64 c.seg,.int .i64 c.least,.int .i64 c.den,.int .i64 c.leafLow,.int .i64 c.rootLow,.int .i64 c.rootHigh,.int .i64 c.leafHigh,.int .i64 s2.seg,.slice s2.wA s2.ws.length s2.wc,.slice s2.kA s2.ks.length s2.kc,.slice s2.vA s2.vs.length s2.vc,.slice s2.cA s2.cs.length s2.cc,.int .u64 s2.laid]:Array Value).toList 0 _ _ HR2.out)
 have HB3:=Lc (show Below w.heap.size w W3 from by rw[<-hW3];exact aR (MK _) _ 0 _ HB2.out)
 have HH4:=Lc (show Held (fun k=>k< w.heap.size+2) (fun W=>SsAt W s2) W3 from by rw[<-hW3];exact HH3.out.step (bg (by show w.heap.size+1< w.heap.size+2;omega) _ 0 _))
 rw[hW3]
 clear hW3 HR2 HB2 HH3 HC2
 have p0:=HR3.out.cell
 go_wp2_with fail
 refine Li (v:= .agg #[.int .u8 c.tag,.int .i64 c.most,.int .i64 c.seg,.int .i64 c.least,.int .i64 c.den,.int .i64 c.leafLow,.int .i64 c.rootLow,.int .i64 c.rootHigh,.int .i64 c.leafHigh,.int .i64 s2.seg,.slice s2.wA s2.ws.length s2.wc,.slice s2.kA s2.ks.length s2.kc,.slice s2.vA s2.vs.length s2.vc,.slice s2.cA s2.cs.length s2.cc,.int .u64 s2.laid]) (by simp[results,results95,go_sem,(p0 0),(p0 1),(p0 2),(p0 3),(p0 4),(p0 5),(p0 6),(p0 7),(p0 8),(p0 9),(p0 10),(p0 11),(p0 12),(p0 13),(p0 14)]) rfl ?_
 exact⟨s2,rfl,HL2.out,Held.join HH4.out (Mod.refl _ _) (fun k _ hx=>Nat.lt_of_lt_of_le hx (Nat.le_add_right _ _)),HB3.out⟩
theorem BM (s:Ss) (w:World) (hs:SsAt w s) (ho:SsOk s):Calls prog 50 #[.agg s.row] w (Cf s w):=by
 have HS:=Lc hs
 have HO:=Lc ho
 clear hs ho
 obtain⟨tiU,hiU,hzU0,hzU1,hzU2⟩:=Mr GI
 obtain⟨tiI,hiI,hzI0,hzI1,hzI2⟩:=Mr rD
 obtain⟨tiN,hiN,hzN0,hzN1,hzN2⟩:=Mr rZ
 obtain⟨W0,hW0⟩:∃W0,(w.alloc (.cells s.row 29)).alloc (.cells #[.int .i64 0,.slice none 0 0,.slice none 0 0,.slice none 0 0,.slice none 0 0,.int .u64 0] 29)=W0:=⟨_,rfl⟩
 have hb0:Below w.heap.size w W0:=by rw[<-hW0];exact((Lg _ _).alloc (Lf _) _).alloc (by simp) _
 have b0:Blk W0 w.heap.size 29 #[.int .i64 s.seg,.slice s.wA s.ws.length s.wc,.slice s.kA s.ks.length s.kc,.slice s.vA s.vs.length s.vc,.slice s.cA s.cs.length s.cc,.int .u64 s.laid]:=by rw[<-hW0];exact(Blk.new _ _ _).alloc _
 have br0:Blk W0 (w.heap.size+1) 29 #[.int .i64 0,.slice none 0 0,.slice none 0 0,.slice none 0 0,.slice none 0 0,.int .u64 0]:=by
  rw[<-hW0]
  have:=Blk.new (w.alloc (.cells s.row 29)) 29 #[.int .i64 0,.slice none 0 0,.slice none 0 0,.slice none 0 0,.slice none 0 0,.int .u64 0]
  rwa [Ls]at this
 have HW0:=Lc hW0
 have HF0:=Lc hb0
 have HC0:=Lc b0
 have HR0:=Lc br0
 clear hW0 hb0 b0 br0
 go_enter func50,ntmps50
 go_upto_region 1 with fail
 rw[HW0.out]
 have q0:W0.cell? ⟨w.heap.size,1,none⟩=some (.slice s.wA s.ws.length s.wc):=HC0.out.cell 1
 have l0:=HC0.out.lt
 have hlen0:s.ws.length<=300:=HO.out.wl
 go_upto_region 2 with(at_builtin;refine ag _ rfl (.tmp 3) (.tmp 5) _ rfl W0.heap.size 22 tiU _ 1 8 underlying25 hiU hzU0 hzU1 hzU2 rfl (by omega) (.slice (some ⟨W0.heap.size,0,none⟩) 0 0) 0 [] rfl (Nc W0 #[] 0 (Lf _) (LC _) rfl) s.wA s.ws.length s.wc (s.ws.map uw) rfl ((HS.out.words.below HF0.out).below ((Lg _ _).alloc (Lf _) _)) (by simp) (by rw[mZ];exact fI uv _ (fun _=>rfl)) (by unfold maxLen;omega) (by omega) (by simp) ?_;intro v0 w0 hown0 hg0;simp only[MZ,Ml]at hown0;obtain⟨A0,c0,rfl,-,-⟩:=ak hown0;have hx0:Below W0.heap.size W0 w0:=((Lg _ _).alloc (Lf _) _).grown hg0 (by simp) (fun k hk=>((Nc W0 #[] 0 (Lf _) (LC _) rfl:(W0.alloc (.cells #[] 22)).ownsRow W0.heap.size 22 1 (.slice (some ⟨W0.heap.size,0,none⟩) 0 0) 0 []).lt k hk).1);have hB0:=HC0.out.below hx0 HC0.out.lt;have kq:w0.cell? ⟨w.heap.size,1,none⟩=some (.slice s.wA s.ws.length s.wc):=hB0.cell 1;have kf:=hB0.frozen 1;have kl:=hB0.lt)
 obtain⟨W1,hW⟩:∃W,w0.setCell ⟨w.heap.size,1,none⟩ (.slice A0 s.ws.length c0)=W:=⟨_,rfl⟩
 rw[hW]
 have HC1:=Lc (show Blk W1 w.heap.size 29 #[.int .i64 s.seg,.slice A0 s.ws.length c0,.slice s.kA s.ks.length s.kc,.slice s.vA s.vs.length s.vc,.slice s.cA s.cs.length s.cc,.int .u64 s.laid]from by rw[<-hW];simpa using hB0.set_ 1 (.slice A0 s.ws.length c0))
 have HR1:=Lc (show Blk W1 (w.heap.size+1) 29 #[.int .i64 0,.slice none 0 0,.slice none 0 0,.slice none 0 0,.slice none 0 0,.int .u64 0]from by rw[<-hW];exact(HR0.out.below hx0 HR0.out.lt).far (p:=⟨w.heap.size,1,none⟩) (by simp) _)
 have HF1:=Lc (show Below w.heap.size w W1 from by rw[<-hW];exact(aa HF0.out hx0).setCell (p:=⟨w.heap.size,1,none⟩) (Lf _) _)
 have hm0:Mod (fun k=>k< w.heap.size+2) w0 W1:=by rw[<-hW];exact cK (by show w.heap.size< w.heap.size+2;omega)
 have HE0:=Lc ((aS (eH (X:=(fun k=>k< w.heap.size+2)) hown0 (fun k hk hx=>by have:=HC0.out.lt;have:=HR0.out.lt;omega)) (fun W2 h2=>aA h2)).step hm0)
 clear q0 l0 hlen0 kq kf kl hW hm0 hown0 hg0 hB0 hx0 HC0 HR0 HF0
 have q0:W1.cell? ⟨w.heap.size,2,none⟩=some (.slice s.kA s.ks.length s.kc):=HC1.out.cell 2
 have l0:=HC1.out.lt
 have hlen1:s.ks.length<=300:=HO.out.kl
 go_upto_region 3 with(at_builtin;refine ag _ rfl (.tmp 8) (.tmp 10) _ rfl W1.heap.size 2 tiI _ 1 8 underlying26 hiI hzI0 hzI1 hzI2 rfl (by omega) (.slice (some ⟨W1.heap.size,0,none⟩) 0 0) 0 [] rfl (Nc W1 #[] 0 (Lf _) (LC _) rfl) s.kA s.ks.length s.kc (s.ks.map iv) rfl ((HS.out.keys.below HF1.out).below ((Lg _ _).alloc (Lf _) _)) (by simp) (fI iv s.ks (fun _=>rfl)) (by unfold maxLen;omega) (by omega) (by simp) ?_;intro v1 w1 hown1 hg1;simp only[MZ,Ml]at hown1;obtain⟨A1,c1,rfl,-,-⟩:=ak hown1;have hx1:Below W1.heap.size W1 w1:=((Lg _ _).alloc (Lf _) _).grown hg1 (by simp) (fun k hk=>((Nc W1 #[] 0 (Lf _) (LC _) rfl:(W1.alloc (.cells #[] 2)).ownsRow W1.heap.size 2 1 (.slice (some ⟨W1.heap.size,0,none⟩) 0 0) 0 []).lt k hk).1);have hB1:=HC1.out.below hx1 HC1.out.lt;have kq:w1.cell? ⟨w.heap.size,2,none⟩=some (.slice s.kA s.ks.length s.kc):=hB1.cell 2;have kf:=hB1.frozen 2;have kl:=hB1.lt)
 obtain⟨W2,hW⟩:∃W,w1.setCell ⟨w.heap.size,2,none⟩ (.slice A1 s.ks.length c1)=W:=⟨_,rfl⟩
 rw[hW]
 have HC2:=Lc (show Blk W2 w.heap.size 29 #[.int .i64 s.seg,.slice A0 s.ws.length c0,.slice A1 s.ks.length c1,.slice s.vA s.vs.length s.vc,.slice s.cA s.cs.length s.cc,.int .u64 s.laid]from by rw[<-hW];simpa using hB1.set_ 2 (.slice A1 s.ks.length c1))
 have HR2:=Lc (show Blk W2 (w.heap.size+1) 29 #[.int .i64 0,.slice none 0 0,.slice none 0 0,.slice none 0 0,.slice none 0 0,.int .u64 0]from by rw[<-hW];exact(HR1.out.below hx1 HR1.out.lt).far (p:=⟨w.heap.size,2,none⟩) (by simp) _)
 have HF2:=Lc (show Below w.heap.size w W2 from by rw[<-hW];exact(aa HF1.out hx1).setCell (p:=⟨w.heap.size,2,none⟩) (Lf _) _)
 have hm1:Mod (fun k=>k< w.heap.size+2) w1 W2:=by rw[<-hW];exact cK (by show w.heap.size< w.heap.size+2;omega)
 have HE1:=Lc ((aS (eH (X:=(fun k=>k< w.heap.size+2)) hown1 (fun k hk hx=>by have:=HC1.out.lt;have:=HR1.out.lt;omega)) (fun W2 h2=>aA h2)).step hm1)
 have HE0':=Lc ((HE0.out.ext hx1).step hm1)
 clear HE0
 have HE0:=HE0'
 clear HE0'
 clear q0 l0 hlen1 kq kf kl hW hm1 hown1 hg1 hB1 hx1 HC1 HR1 HF1
 have q0:W2.cell? ⟨w.heap.size,3,none⟩=some (.slice s.vA s.vs.length s.vc):=HC2.out.cell 3
 have l0:=HC2.out.lt
 have hlen2:s.vs.length<=300:=HO.out.vl
 go_upto_region 4 with(at_builtin;refine ag _ rfl (.tmp 13) (.tmp 15) _ rfl W2.heap.size 2 tiI _ 1 8 underlying26 hiI hzI0 hzI1 hzI2 rfl (by omega) (.slice (some ⟨W2.heap.size,0,none⟩) 0 0) 0 [] rfl (Nc W2 #[] 0 (Lf _) (LC _) rfl) s.vA s.vs.length s.vc (s.vs.map iv) rfl ((HS.out.vals.below HF2.out).below ((Lg _ _).alloc (Lf _) _)) (by simp) (fI iv s.vs (fun _=>rfl)) (by unfold maxLen;omega) (by omega) (by simp) ?_;intro v2 w2 hown2 hg2;simp only[MZ,Ml]at hown2;obtain⟨A2,c2,rfl,-,-⟩:=ak hown2;have hx2:Below W2.heap.size W2 w2:=((Lg _ _).alloc (Lf _) _).grown hg2 (by simp) (fun k hk=>((Nc W2 #[] 0 (Lf _) (LC _) rfl:(W2.alloc (.cells #[] 2)).ownsRow W2.heap.size 2 1 (.slice (some ⟨W2.heap.size,0,none⟩) 0 0) 0 []).lt k hk).1);have hB2:=HC2.out.below hx2 HC2.out.lt;have kq:w2.cell? ⟨w.heap.size,3,none⟩=some (.slice s.vA s.vs.length s.vc):=hB2.cell 3;have kf:=hB2.frozen 3;have kl:=hB2.lt)
 obtain⟨W3,hW⟩:∃W,w2.setCell ⟨w.heap.size,3,none⟩ (.slice A2 s.vs.length c2)=W:=⟨_,rfl⟩
 rw[hW]
 have HC3:=Lc (show Blk W3 w.heap.size 29 #[.int .i64 s.seg,.slice A0 s.ws.length c0,.slice A1 s.ks.length c1,.slice A2 s.vs.length c2,.slice s.cA s.cs.length s.cc,.int .u64 s.laid]from by rw[<-hW];simpa using hB2.set_ 3 (.slice A2 s.vs.length c2))
 have HR3:=Lc (show Blk W3 (w.heap.size+1) 29 #[.int .i64 0,.slice none 0 0,.slice none 0 0,.slice none 0 0,.slice none 0 0,.int .u64 0]from by rw[<-hW];exact(HR2.out.below hx2 HR2.out.lt).far (p:=⟨w.heap.size,3,none⟩) (by simp) _)
 have HF3:=Lc (show Below w.heap.size w W3 from by rw[<-hW];exact(aa HF2.out hx2).setCell (p:=⟨w.heap.size,3,none⟩) (Lf _) _)
 have hm2:Mod (fun k=>k< w.heap.size+2) w2 W3:=by rw[<-hW];exact cK (by show w.heap.size< w.heap.size+2;omega)
 have HE2:=Lc ((aS (eH (X:=(fun k=>k< w.heap.size+2)) hown2 (fun k hk hx=>by have:=HC2.out.lt;have:=HR2.out.lt;omega)) (fun W2 h2=>aA h2)).step hm2)
 have HE0':=Lc ((HE0.out.ext hx2).step hm2)
 clear HE0
 have HE0:=HE0'
 clear HE0'
 have HE1':=Lc ((HE1.out.ext hx2).step hm2)
 clear HE1
 have HE1:=HE1'
 clear HE1'
 clear q0 l0 hlen2 kq kf kl hW hm2 hown2 hg2 hB2 hx2 HC2 HR2 HF2
 have q0:W3.cell? ⟨w.heap.size,4,none⟩=some (.slice s.cA s.cs.length s.cc):=HC3.out.cell 4
 have l0:=HC3.out.lt
 have hlen3:s.cs.length<=300:=HO.out.cl
 go_upto_region 5 with(at_builtin;refine ag _ rfl (.tmp 18) (.tmp 20) _ rfl W3.heap.size 3 tiN _ 1 8 underlying27 hiN hzN0 hzN1 hzN2 rfl (by omega) (.slice (some ⟨W3.heap.size,0,none⟩) 0 0) 0 [] rfl (Nc W3 #[] 0 (Lf _) (LC _) rfl) s.cA s.cs.length s.cc (s.cs.map iv) rfl ((HS.out.cnts.below HF3.out).below ((Lg _ _).alloc (Lf _) _)) (by simp) (fI iv s.cs (fun _=>rfl)) (by unfold maxLen;omega) (by omega) (by simp) ?_;intro v3 w3 hown3 hg3;simp only[MZ,Ml]at hown3;obtain⟨A3,c3,rfl,-,-⟩:=ak hown3;have hx3:Below W3.heap.size W3 w3:=((Lg _ _).alloc (Lf _) _).grown hg3 (by simp) (fun k hk=>((Nc W3 #[] 0 (Lf _) (LC _) rfl:(W3.alloc (.cells #[] 3)).ownsRow W3.heap.size 3 1 (.slice (some ⟨W3.heap.size,0,none⟩) 0 0) 0 []).lt k hk).1);have hB3:=HC3.out.below hx3 HC3.out.lt;have kq:w3.cell? ⟨w.heap.size,4,none⟩=some (.slice s.cA s.cs.length s.cc):=hB3.cell 4;have kf:=hB3.frozen 4;have kl:=hB3.lt)
 obtain⟨W4,hW⟩:∃W,w3.setCell ⟨w.heap.size,4,none⟩ (.slice A3 s.cs.length c3)=W:=⟨_,rfl⟩
 rw[hW]
 have HC4:=Lc (show Blk W4 w.heap.size 29 #[.int .i64 s.seg,.slice A0 s.ws.length c0,.slice A1 s.ks.length c1,.slice A2 s.vs.length c2,.slice A3 s.cs.length c3,.int .u64 s.laid]from by rw[<-hW];simpa using hB3.set_ 4 (.slice A3 s.cs.length c3))
 have HR4:=Lc (show Blk W4 (w.heap.size+1) 29 #[.int .i64 0,.slice none 0 0,.slice none 0 0,.slice none 0 0,.slice none 0 0,.int .u64 0]from by rw[<-hW];exact(HR3.out.below hx3 HR3.out.lt).far (p:=⟨w.heap.size,4,none⟩) (by simp) _)
 have HF4:=Lc (show Below w.heap.size w W4 from by rw[<-hW];exact(aa HF3.out hx3).setCell (p:=⟨w.heap.size,4,none⟩) (Lf _) _)
 have hm3:Mod (fun k=>k< w.heap.size+2) w3 W4:=by rw[<-hW];exact cK (by show w.heap.size< w.heap.size+2;omega)
 have HE3:=Lc ((aS (eH (X:=(fun k=>k< w.heap.size+2)) hown3 (fun k hk hx=>by have:=HC3.out.lt;have:=HR3.out.lt;omega)) (fun W2 h2=>aA h2)).step hm3)
 have HE0':=Lc ((HE0.out.ext hx3).step hm3)
 clear HE0
 have HE0:=HE0'
 clear HE0'
 have HE1':=Lc ((HE1.out.ext hx3).step hm3)
 clear HE1
 have HE1:=HE1'
 clear HE1'
 have HE2':=Lc ((HE2.out.ext hx3).step hm3)
 clear HE2
 have HE2:=HE2'
 clear HE2'
 have HCAP:=Lc (wI hown3)
 clear q0 l0 hlen3 kq kf kl hW hm3 hown3 hg3 hB3 hx3 HC3 HR3 HF3
 have q0:W4.cell? ⟨w.heap.size,0,none⟩=some (.int .i64 s.seg):=HC4.out.cell 0
 have q1:W4.cell? ⟨w.heap.size,1,none⟩=some (.slice A0 s.ws.length c0):=HC4.out.cell 1
 have q2:W4.cell? ⟨w.heap.size,2,none⟩=some (.slice A1 s.ks.length c1):=HC4.out.cell 2
 have q3:W4.cell? ⟨w.heap.size,3,none⟩=some (.slice A2 s.vs.length c2):=HC4.out.cell 3
 have q4:W4.cell? ⟨w.heap.size,4,none⟩=some (.slice A3 s.cs.length c3):=HC4.out.cell 4
 have q5:W4.cell? ⟨w.heap.size,5,none⟩=some (.int .u64 s.laid):=HC4.out.cell 5
 have p0:W4.cell? ⟨w.heap.size+1,0,none⟩=some (.int .i64 0):=HR4.out.cell 0
 have r0:=HR4.out.frozen 0
 have p1:W4.cell? ⟨w.heap.size+1,1,none⟩=some (.slice none 0 0):=HR4.out.cell 1
 have r1:=HR4.out.frozen 1
 have p2:W4.cell? ⟨w.heap.size+1,2,none⟩=some (.slice none 0 0):=HR4.out.cell 2
 have r2:=HR4.out.frozen 2
 have p3:W4.cell? ⟨w.heap.size+1,3,none⟩=some (.slice none 0 0):=HR4.out.cell 3
 have r3:=HR4.out.frozen 3
 have p4:W4.cell? ⟨w.heap.size+1,4,none⟩=some (.slice none 0 0):=HR4.out.cell 4
 have r4:=HR4.out.frozen 4
 have p5:W4.cell? ⟨w.heap.size+1,5,none⟩=some (.int .u64 0):=HR4.out.cell 5
 have r5:=HR4.out.frozen 5
 have lg:=HR4.out.lt
 have lg0:=HC4.out.lt
 go_wp2_with fail
 refine Li (v:= .agg #[.int .i64 s.seg,.slice A0 s.ws.length c0,.slice A1 s.ks.length c1,.slice A2 s.vs.length c2,.slice A3 s.cs.length c3,.int .u64 s.laid]) (by simp[results,results50,go_sem,p0,p1,p2,p3,p4,p5,q0,q1,q2,q3,q4,q5]) rfl ?_
 refine⟨⟨s.seg,s.ws,s.ks,s.vs,s.cs,s.laid,A0,A1,A2,A3,c0,c1,c2,c3⟩,rfl,⟨rfl,rfl,rfl,rfl,rfl,rfl,HCAP.out⟩,?_,Kz HF4.out (MK _) _ _ _ _ _ _⟩
 exact Held.join (X:=(fun k=>k< w.heap.size+2)) (fun W2 h2=>⟨HE0.out W2 h2,HE1.out W2 h2,HE2.out W2 h2,HE3.out W2 h2⟩) (KH (g:=w.heap.size+1) (S:=(fun k=>k< w.heap.size+2)) (by show w.heap.size+1< w.heap.size+2;omega) _ _ _ _ _ _) (fun k hk hx=>by show k< w.heap.size+2;have:k< w.heap.size:=hx;omega)
end Go.Proofs.YtpbmbjjfdpkhbaaGreat
