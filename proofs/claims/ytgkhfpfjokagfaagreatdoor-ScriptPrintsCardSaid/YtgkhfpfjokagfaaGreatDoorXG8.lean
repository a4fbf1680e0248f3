/- Part of the proof of this claim: walks and laws that it leans on; no condition. -/
import Derived.Test.YtgkhfpfjokagfaaGreatDoorXG7
set_option linter.unusedSimpArgs false
set_option linter.unusedVariables false
namespace Go.Proofs.YtgkhfpfjokagfaaGreatDoor
theorem uT(s:Sc)(hok:s.ok)(hn:s.near):PC Tryz.prog 6 [.agg (s.c.map LV.sv)] (.tup [.t (gW s).1,.i (gW s).2]):=by
 refine⟨LC.of_go Tryz.func6 (c:=_) rfl (by kernel_rfl) (by rw[Tryz.ntmps6];simp) rfl rfl (by simp[LO.lt,an,LV.lt,aq]) (by simp) ?_⟩;intro B hA hmd;obtain⟨g,e0⟩:∃g,gW s=g:=⟨_,rfl⟩;have e1:=e0;unfold gW at e1;rw[e0];refine .seq (.region rfl (bg (h:=aa (h:=aa (h:=.n0 (.seq (.seq (.region rfl (aB gu (h:=ai (es:=[_]) (fun _=>jT s (hok.sm hn)) (h:=ae (h:=ak (h:=ak (h:=?_))))))))))))));refine aa (h:=aa (h:=.n0 (.seq (.region rfl (ae (h:=ah (aC _ _ _ _ _ _) (h:=.n0 ?_)))))));refine aj (ht:=fun hc=>?_) (hf:=fun hc=>?_);rw[if_pos (by simpa using hc)]at e1;rw[←e1];refine .seq (.region rfl (ae (h:=aa (h:=aa (h:=.n0 ?_)))));exact LGo.ret (aI Tryz.results6 hA hmd);have hc0:(cg s).2=0:=by simpa using hc
 rw[if_neg (by rw[hc0];decide)]at e1;rw[←e1];dsimp only;clear e0 e1;obtain⟨hb0,hel,hev⟩:=gO hc0;obtain⟨hv0,hg0,hg1,hg8,hk64⟩:=qe hb0;have hnw:kU s.gates=(⟨s.gates,[]⟩,0):=by unfold kU;rw[if_neg (by rw[hg0];decide)]
 have hvB:zd s.ven:=⟨hok.n1,hok.n2,hok.n3,hn.vl,fun x hx=>⟨(hn.vs x hx).1,(hn.vs x hx).2,(hok.vs x hx).2.2.1,(hok.vs x hx).2.2.2⟩⟩;have hvl:=iY hvB;have hgo:=hok.gs;have hgl:=iZ (l:=s.gates) (fun g hg=>⟨(hgo g hg).2.2.1,(hgo g hg).2.2.2,hn.gs g hg⟩) (by omega);have hwk:=hok.w;have hcn:s.calls.length≤20:=by
  rcases hn.cl with h|h
  exact h;have:=tE hb0;omega
 have hen:s.evs.length≤100:=by
  rcases hn.el with h|h
  exact h;omega
 have hsg:DB ⟨s.gates,[]⟩:=⟨⟨by show s.gates.length≤_;omega,fun g hg=>by have:=hn.gs g hg;omega⟩,by show(0:Nat)≤_;omega,by simp⟩;have hgc:dp ⟨s.gates,[]⟩=0:=by unfold dp;rw[if_neg (by rw[hg0];decide)];rfl
 obtain⟨F,hF⟩:∃F,eD s=F:=⟨_,rfl⟩;rw[hF];unfold eD at hF;obtain⟨E0,hE0⟩:∃E,(s.evs.map fun x=>lnF (hY x)).flatten=E:=⟨_,rfl⟩;rw[hE0]at hF;have hF0:F≠[]:=by rw[←hF];unfold fW;simp
 refine .skip (.seq (.region rfl (aD Is (h:=.n0 (aS 1 1 5 1 (h:=.seq (.region rfl (cQ (es:=[]) (fs:=[_]) (h:=aa (h:=.n0 (.seq (.region rfl (cQ (es:=[]) (fs:=[_]) (h:=?_))))))))))))));refine aa (h:=.n0 (.seq (.region rfl (af fh (h:=dq sM (h:=ai (es:=[_]) (fun _=>Ck s.ven hv0 hvB) (h:=ae (h:=ak (h:=ak (h:=aa (h:=aa (h:=.n0 (.seq ?_)))))))))))));refine .region rfl (ae (h:=ae (h:=aK (es:=[_,_]) (first:=[]) (cap:=[_]) [1] (HY [118,101,110,117,101] (cC s.ven) (by decide) (by omega)) (h:=.n0 ?_))));obtain⟨M1,e1⟩:∃M,fW [118,101,110,117,101] (cC s.ven)=M:=⟨_,rfl⟩;have hm1:M1.length≤6400:=by have:=iq [118,101,110,117,101] (cC s.ven) (by omega);rw[←e1];simp only[List.length_cons,List.length_nil]at this;omega
 rw[e1]at hF⊢;refine .seq (.region rfl (ae (h:=ai (es:=[_]) (fun _=>fz [107,101,121]) (h:=af jz (h:=ag O9 (h:=ai (es:=[_]) (fun _=>rV s.key) (h:=az fX (ys:=[fB [107,101,121],fQ s.key].map Fd.c) (xs:=[_,_]) (es:=[_,_]) (hcs:=CellsOfs.cons (CellsOf.agg rfl) (CellsOfs.cons (CellsOf.agg rfl) (CellsOfs.nil))) (hys:=rfl) (h:=aK (es:=[_]) (first:=[]) (cap:=[_]) [1] (Hg M1 (by omega) [fB [107,101,121],fQ s.key] (by simp)) (h:=Reg.nil ⟨fun _=>⟨aQ,by rfl,by rfl⟩,?_⟩)))))))));obtain⟨M2,e2⟩:∃M,M1++lnF [fB [107,101,121],fQ s.key]=M:=⟨_,rfl⟩;have hm2:M2.length≤14700:=by have:=fp [fB [107,101,121],fQ s.key];rw[←e2,List.length_append];unfold lnF;rw[List.length_append];show _+(_+1)≤_;omega
 rw[e2]at hF⊢;refine .seq (.region rfl (af fE (h:=ag gQ (h:=ai (es:=[_]) (fun _=>Bl s.gates (by omega) (fun g hg=>by have:=hn.gs g hg;omega)) (h:=?_)))));rw[hnw];refine ae (h:=ak (h:=ak (h:=aD Dz (h:=ar nS (h:=aa (h:=.n0 (.seq (.region rfl (aB nS (h:=ai (es:=[_]) (fun _=>Ew ⟨s.gates,[]⟩ hsg hgc (fun g hg=>⟨(hgo g hg).2.2.1,(hgo g hg).2.2.2,(hgo g hg).2.1,by have:=hn.gs g hg;have:=iy g.secs;omega⟩) (by show s.gates.length≤8;omega) hg1 (by simp) (by simp)) (h:=ae (h:=ak (h:=ak (h:=?_))))))))))))));refine aa (h:=.n0 (.seq (.region rfl (ae (h:=ae (h:=aK (es:=[_,_]) (first:=[]) (cap:=[_]) [1] (HX M2 (by omega) [103,97,116,101,115] (cz ⟨s.gates,[]⟩) (by decide) (by omega)) (h:=.n0 ?_)))))));obtain⟨M3,e3⟩:∃M,M2++fW [103,97,116,101,115] (cz ⟨s.gates,[]⟩)=M:=⟨_,rfl⟩;have hm3:M3.length≤20000:=by have:=iq [103,97,116,101,115] (cz ⟨s.gates,[]⟩) (by omega);rw[←e3,List.length_append];simp only[List.length_cons,List.length_nil]at this;omega
 rw[e3]at hF⊢;refine .seq (.region rfl (ae (h:=ai (es:=[_]) (fun _=>fz [119,111,114,107,101,114,115]) (h:=af jy (h:=ag O3 (h:=ai (es:=[_]) (fun _=>dH s.workers hwk) (h:=az fX (ys:=[fB [119,111,114,107,101,114,115],fD s.workers].map Fd.c) (xs:=[_,_]) (es:=[_,_]) (hcs:=CellsOfs.cons (CellsOf.agg rfl) (CellsOfs.cons (CellsOf.agg rfl) (CellsOfs.nil))) (hys:=rfl) (h:=aK (es:=[_]) (first:=[]) (cap:=[_]) [1] (Hg M3 (by omega) [fB [119,111,114,107,101,114,115],fD s.workers] (by simp)) (h:=Reg.nil ⟨fun _=>⟨aQ,by rfl,by rfl⟩,?_⟩)))))))));obtain⟨M4,e4⟩:∃M,M3++lnF [fB [119,111,114,107,101,114,115],fD s.workers]=M:=⟨_,rfl⟩;have hm4:M4.length≤28300:=by have:=fp [fB [119,111,114,107,101,114,115],fD s.workers];rw[←e4,List.length_append];unfold lnF;rw[List.length_append];show _+(_+1)≤_;omega
 rw[e4]at hF⊢;refine .seq (.seq (.region rfl (af cP (h:=ag kT (h:=aF rh (h:=?_))))));rw[List.length_map];refine ae (h:=.n0 (.block (.loop ?_)));refine ay (σ:=Nat×List UInt8) (fun x=>x.1≤s.calls.length∧x.2.length≤28300+3100*x.1∧x.2++((s.calls.drop x.1).map fun c=>lnF (cq c)).flatten++E0=F) (fun x=>[(71,(true,.i (x.1:Nat)))]) (fun x=>[(0,.box 29 (s.c.map LV.sv)),(1,.bx 60 [.ptr 1 0,.v undef] 1 5 1 (aL x.2))]) (fun x=>s.calls.length-x.1) (0,M4) [(1,_),(6,_),(8,_),(69,_),(70,_)] ⟨Nat.zero_le _,by dsimp only;omega,hF⟩ (by repeat (first|exact trivial|refine⟨rfl,?_⟩)) (by repeat (first|exact trivial|refine⟨rfl,?_⟩)) (by repeat (first|exact trivial|refine⟨rfl,?_⟩)) ?_;rintro⟨k,acc⟩ ⟨hk,hal,hq⟩ ih;dsimp only at*;refine .seq (.region rfl (ah (au _ _ _ _ _ _) (h:=.n0 (.seq ?_))));refine ao (ht:=fun hc2=>?_) (hf:=fun hc2=>?_);have hlt:k<s.calls.length:=by omega
 have hx:(s.calls.map SrC.c)[((k:Nat):Int).toNat]?=some s.calls[k].c:=by simp[hlt]
 have hd:s.calls.drop k=s.calls[k]::s.calls.drop (k+1):=List.drop_eq_getElem_cons hlt;have hz:=hok.cs s.calls[k] (List.getElem_mem hlt);have hzr:=hn.cs s.calls[k] (List.getElem_mem hlt);rw[hd,List.map_cons,List.flatten_cons]at hq;generalize s.calls[k]=z at hx hq hz hzr;clear hd;have hcl:=sA hz hzr;have hns:=kc hz;have hnl:(ca z).length=10:=rfl;rw[show cq z=(fB [99,97,108,108]::(ca z).map fD)++[fQ z.raw]from rfl]at hq hcl;refine .skip (.seq (.block (.seq (.region rfl (aw DC (hj:=fun hg=>⟨by omega,hx⟩) (h:=aR lK (h:=aD Hm (h:=ar lK (h:=.n0 (.seq (.region rfl (ai (es:=[_]) (fun _=>fz [99,97,108,108]) (h:=bo fX (ys:=[fB [99,97,108,108]].map Fd.c) (xs:=[_]) (es:=[(true,.agg ((fB [99,97,108,108]).c.map LV.sv))]) (hcs:=CellsOfs.cons (CellsOf.agg rfl) CellsOfs.nil) (hys:=rfl) (h:=?_))))))))))))));refine aa (h:=.n0 (.seq (.seq (.region rfl (aB lK (h:=ai (es:=[_]) (fun _=>xl z hz) (h:=?_)))))));generalize ca z=nu at hq hcl hns hnl⊢;refine aF Jb (h:=?_);rw[bp,hnl];refine ae (h:=.n0 (.block (.loop ?_)));rw[show[fB [99,97,108,108]].map Fd.c=(fB [99,97,108,108]::(nu.take 0).map fD).map Fd.c from rfl];refine ay (σ:=Nat) (fun x=>x≤10) (fun x=>[(80,(true,.i (x:Nat))),(15,(true,.ref 4))]) (fun x=>[(0,.box 29 (s.c.map LV.sv)),(1,.bx 60 [.ptr 1 0,.v undef] 1 5 1 (aL acc)),(3,.box 45 (z.c.map LV.sv)),(4,.rs 73 2 ((fB [99,97,108,108]::(nu.take x).map fD).map Fd.c))]) (fun x=>10-x) (0) [(1,_),(6,_),(8,_),(14,_),(69,_),(70,_),(71,_),(78,_),(79,_)] (Nat.zero_le _) (by repeat (first|exact trivial|refine⟨rfl,?_⟩)) (by repeat (first|exact trivial|refine⟨rfl,?_⟩)) (by repeat (first|exact trivial|refine⟨rfl,?_⟩)) ?_;rintro j hj ih2;refine .seq (.region rfl (ah (au _ _ _ _ _ _) (h:=.n0 (.seq ?_))));refine ao (ht:=fun hc3=>?_) (hf:=fun hc3=>?_);have hltj:j<nu.length:=by omega
 have hx2:=wv (l:=nu) hltj;have hm:=hns _ (List.getElem_mem hltj);have hst:(fB [99,97,108,108]::(nu.take (j+1)).map fD).map Fd.c=(fB [99,97,108,108]::(nu.take j).map fD).map Fd.c++[(fD nu[j]).c]:=by rw[List.take_succ_eq_append_getElem hltj,List.map_append,←List.cons_append,List.map_append];rfl
 have htl:(nu.take j).length≤10:=by rw[List.length_take];omega
 generalize nu[j]=n at hx2 hm hst;refine .skip (.seq (.block (.seq (.region rfl (aw Hq (hj:=fun hg=>⟨by omega,hx2⟩) (h:=aM O2 (h:=aa (h:=.n0 (.region rfl (ae (h:=ae (h:=ai (es:=[_]) (fun _=>dH n hm) (h:=az fX (xs:=[_]) (es:=[_]) (hcs:=CellsOfs.cons (CellsOf.agg rfl) CellsOfs.nil) (h:=?_))))))))))))));refine aO fX (hs:=SrcOk.sl Tryz.underlying68 (by simp[fD,Fd.c])) (hlen:=by simp;omega) (h:=aa (h:=.n0 (.inBlock (.region rfl (aG (h:=ae (h:=.n0 (.inLoop ?_))))))));exact bM [0,1,2,3,5] (b:=0) (fun o h=>by have:=(hA o).1 h;omega) (ih2 (j+1) (by omega) (by omega)) (by repeat (first|exact trivial|refine⟨rfl,?_⟩)) ⟨rfl,rfl,rfl,by rw[hst];rfl,trivial⟩;obtain rfl:j=10:=by omega
 rw[show nu.take 10=nu from by rw[←hnl,List.take_length]];refine .exit rfl (.region rfl (ae (h:=ae (h:=af gY (h:=ag O9 (h:=ai (es:=[_]) (fun _=>rV z.raw) (h:=az fX (xs:=[_]) (es:=[_]) (hcs:=CellsOfs.cons (CellsOf.agg rfl) CellsOfs.nil) (h:=aO fX (hs:=SrcOk.sl Tryz.underlying68 (by simp[fQ,Fd.c])) (hlen:=by simp;omega) (h:=?_)))))))));rw[show(fB [99,97,108,108]::nu.map fD).map Fd.c++[List.map y7 (List.map LV.sv (fQ z.raw).c)]=((fB [99,97,108,108]::nu.map fD)++[fQ z.raw]).map Fd.c from by rw[List.map_append];rfl];refine aK (es:=[_]) (first:=[]) (cap:=[_]) [1,5] (II acc (by omega) ((fB [99,97,108,108]::nu.map fD)++[fQ z.raw]) (by simp;omega)) (h:=.n0 (.inBlock (.region rfl (aG (h:=ae (h:=.n0 (.inLoop ?_)))))));exact LGo.next _ (fun o h=>by have:=(hA o).1 h;omega) (by omega) (ih (k+1,acc++lnF ((fB [99,97,108,108]::nu.map fD)++[fQ z.raw])) ⟨by dsimp only;omega,by dsimp only;rw[List.length_append];omega,by dsimp only;rw[←hq];simp⟩ (by dsimp only;omega)) (by repeat (first|exact trivial|refine⟨rfl,?_⟩)) ⟨rfl,rfl,trivial⟩;rw[List.drop_eq_nil_of_le (show s.calls.length≤k by omega),List.map_nil,List.flatten_nil,List.append_nil]at hq;have hal2:acc.length≤90300:=by omega
 rw[←hE0]at hq;clear hF;refine .exit rfl (.seq (.region rfl (aK (es:=[]) [] tj (h:=aa (h:=.n0 (.seq (.seq (.region rfl (af cF (h:=ag gG (h:=aF oV (h:=?_))))))))))));rw[List.length_map];refine ae (h:=.n0 (.block (.loop ?_)));refine ay (σ:=Nat×List UInt8) (fun x=>x.1≤s.evs.length∧x.2.length≤90300+80*x.1∧x.2++((s.evs.drop x.1).map fun x=>lnF (hY x)).flatten=F) (fun x=>[(103,(true,.i (x.1:Nat)))]) (fun x=>[(0,.box 29 (s.c.map LV.sv)),(1,.bx 60 [.ptr 1 0,.v undef] 1 5 1 (aL x.2)),(3,.box 88 [.t [],.i 0,.i 0,.i 0,.v .nilFunc,.t [115,101,110,100],.i 0,.i 0,.i 2,.fn (.func 84) [] [],.t [112,105,99,107],.i 0,.i 1000000,.i 1,.fn (.func 82) [] [.ptr 4 0,.ptr 5 0],.t [102,97,105,114],.i 1,.i 1000,.i 1,.fn (.func 82) [] [.ptr 6 0,.ptr 7 0],.t [116,105,99,107],.i 1,.i 1000000000,.i 1,.fn (.func 82) [] [.ptr 8 0,.ptr 9 0]]),(4,.box 2 [.i 0]),(5,.box 2 [.i 1000000]),(6,.box 2 [.i 1]),(7,.box 2 [.i 1000]),(8,.box 2 [.i 1]),(9,.box 2 [.i 1000000000])]) (fun x=>s.evs.length-x.1) (0,acc) [(6,_),(8,_),(18,_),(101,_),(102,_)] ⟨Nat.zero_le _,by dsimp only;omega,hq⟩ (by repeat (first|exact trivial|refine⟨rfl,?_⟩)) (by repeat (first|exact trivial|refine⟨rfl,?_⟩)) (by repeat (first|exact trivial|refine⟨rfl,?_⟩)) ?_;rintro⟨m,ac⟩ ⟨hm,hcl,hq2⟩ ih3;dsimp only at*;refine .seq (.region rfl (ah (au _ _ _ _ _ _) (h:=.n0 (.seq ?_))));refine ao (ht:=fun hc4=>?_) (hf:=fun hc4=>?_);have hlt:m<s.evs.length:=by omega
 have hx:(s.evs.map SrE.c)[((m:Nat):Int).toNat]?=some s.evs[m].c:=by simp[hlt]
 have hd:s.evs.drop m=s.evs[m]::s.evs.drop (m+1):=List.drop_eq_getElem_cons hlt;have hz:=hok.es s.evs[m] (List.getElem_mem hlt);have hzk:=xW (hev s.evs[m] (List.getElem_mem hlt));rw[hd,List.map_cons,List.flatten_cons]at hq2;generalize s.evs[m]=z at hx hq2 hz hzk;clear hd;have hln:=yL (x:=z) hz.2.1 hz.2.2;obtain⟨kd,xa,xb⟩:=z;dsimp only at hz hzk;obtain⟨_,hza,hzb⟩:=hz;refine .skip (.seq (.block (.seq (.region rfl (aw wB (hj:=fun hg=>⟨by omega,hx⟩) (h:=aR iG (h:=aD Fv (h:=ar iG (h:=.n0 (.region rfl (ae (h:=ae (h:=af dQ (h:=?_))))))))))))));refine ag O3 (h:=?_);rcases(show kd=1∨kd=2∨kd=3∨kd=4 from by omega)with rfl|rfl|rfl|rfl
 refine bL rI (hj:=fun _=>⟨by dsimp only;omega,by dsimp only;omega⟩) (h:=af jv (h:=ag O9 (h:=ai (es:=[_]) (fun _=>fz [115,101,110,100]) (h:=af ei (h:=ag O2 (h:=ai (es:=[_]) (fun _=>dH xa hza) (h:=af jK (h:=ag O2 (h:=ai (es:=[_]) (fun _=>dH xb hzb) (h:=az fX (ys:=[fB [115,101,110,100],fD xa,fD xb].map Fd.c) (xs:=[_,_,_]) (es:=[_,_,_]) (hcs:=CellsOfs.cons (CellsOf.agg rfl) (CellsOfs.cons (CellsOf.agg rfl) (CellsOfs.cons (CellsOf.agg rfl) (CellsOfs.nil)))) (hys:=rfl) (h:=ae (h:=af dQ (h:=ag O3 (h:=?_))))))))))))));refine bL rI (hj:=fun _=>⟨by dsimp only;omega,by dsimp only;omega⟩) (h:=af fV (h:=ag O3 (h:=aG (h:=iz zf (ha:=fun _=>by simp) (h:=aK (es:=[_]) (first:=[]) (cap:=[_]) [1] (Hg ac (by omega) (hY ⟨1,xa,xb⟩) (by show(3:Nat)≤_;decide)) (h:=Reg.nil ⟨fun _=>⟨aQ,by rfl,by rfl⟩,.inBlock (.region rfl (aG (h:=ae (h:=.n0 (.inLoop ?_)))))⟩))))));exact LGo.next _ (fun o h=>by have:=(hA o).1 h;omega) (by omega) (ih3 (m+1,ac++lnF (hY ⟨1,xa,xb⟩)) ⟨by dsimp only;omega,by dsimp only;rw[List.length_append];omega,by dsimp only;rw[←hq2];simp⟩ (by dsimp only;omega)) (by repeat (first|exact trivial|refine⟨rfl,?_⟩)) ⟨rfl,rfl,rfl,rfl,rfl,rfl,rfl,rfl,rfl,trivial⟩;refine bL rI (hj:=fun _=>⟨by dsimp only;omega,by dsimp only;omega⟩) (h:=af jv (h:=ag O9 (h:=ai (es:=[_]) (fun _=>fz [112,105,99,107]) (h:=af ei (h:=ag O2 (h:=ai (es:=[_]) (fun _=>dH xa hza) (h:=af jK (h:=ag O2 (h:=ai (es:=[_]) (fun _=>dH xb hzb) (h:=az fX (ys:=[fB [112,105,99,107],fD xa,fD xb].map Fd.c) (xs:=[_,_,_]) (es:=[_,_,_]) (hcs:=CellsOfs.cons (CellsOf.agg rfl) (CellsOfs.cons (CellsOf.agg rfl) (CellsOfs.cons (CellsOf.agg rfl) (CellsOfs.nil)))) (hys:=rfl) (h:=ae (h:=af dQ (h:=ag O3 (h:=?_))))))))))))));refine bL rI (hj:=fun _=>⟨by dsimp only;omega,by dsimp only;omega⟩) (h:=af fV (h:=ag O3 (h:=aG (h:=iz zf (ha:=fun _=>by simp) (h:=aK (es:=[_]) (first:=[]) (cap:=[_]) [1] (Hg ac (by omega) (hY ⟨2,xa,xb⟩) (by show(2:Nat)≤_;decide)) (h:=Reg.nil ⟨fun _=>⟨aQ,by rfl,by rfl⟩,.inBlock (.region rfl (aG (h:=ae (h:=.n0 (.inLoop ?_)))))⟩))))));exact LGo.next _ (fun o h=>by have:=(hA o).1 h;omega) (by omega) (ih3 (m+1,ac++lnF (hY ⟨2,xa,xb⟩)) ⟨by dsimp only;omega,by dsimp only;rw[List.length_append];omega,by dsimp only;rw[←hq2];simp⟩ (by dsimp only;omega)) (by repeat (first|exact trivial|refine⟨rfl,?_⟩)) ⟨rfl,rfl,rfl,rfl,rfl,rfl,rfl,rfl,rfl,trivial⟩;refine bL rI (hj:=fun _=>⟨by dsimp only;omega,by dsimp only;omega⟩) (h:=af jv (h:=ag O9 (h:=ai (es:=[_]) (fun _=>fz [102,97,105,114]) (h:=af ei (h:=ag O2 (h:=ai (es:=[_]) (fun _=>dH xa hza) (h:=af jK (h:=ag O2 (h:=ai (es:=[_]) (fun _=>dH xb hzb) (h:=az fX (ys:=[fB [102,97,105,114],fD xa,fD xb].map Fd.c) (xs:=[_,_,_]) (es:=[_,_,_]) (hcs:=CellsOfs.cons (CellsOf.agg rfl) (CellsOfs.cons (CellsOf.agg rfl) (CellsOfs.cons (CellsOf.agg rfl) (CellsOfs.nil)))) (hys:=rfl) (h:=ae (h:=af dQ (h:=ag O3 (h:=?_))))))))))))));refine bL rI (hj:=fun _=>⟨by dsimp only;omega,by dsimp only;omega⟩) (h:=af fV (h:=ag O3 (h:=aG (h:=iz zf (ha:=fun _=>by simp) (h:=aK (es:=[_]) (first:=[]) (cap:=[_]) [1] (Hg ac (by omega) (hY ⟨3,xa,xb⟩) (by show(2:Nat)≤_;decide)) (h:=Reg.nil ⟨fun _=>⟨aQ,by rfl,by rfl⟩,.inBlock (.region rfl (aG (h:=ae (h:=.n0 (.inLoop ?_)))))⟩))))));exact LGo.next _ (fun o h=>by have:=(hA o).1 h;omega) (by omega) (ih3 (m+1,ac++lnF (hY ⟨3,xa,xb⟩)) ⟨by dsimp only;omega,by dsimp only;rw[List.length_append];omega,by dsimp only;rw[←hq2];simp⟩ (by dsimp only;omega)) (by repeat (first|exact trivial|refine⟨rfl,?_⟩)) ⟨rfl,rfl,rfl,rfl,rfl,rfl,rfl,rfl,rfl,trivial⟩;refine bL rI (hj:=fun _=>⟨by dsimp only;omega,by dsimp only;omega⟩) (h:=af jv (h:=ag O9 (h:=ai (es:=[_]) (fun _=>fz [116,105,99,107]) (h:=af ei (h:=ag O2 (h:=ai (es:=[_]) (fun _=>dH xa hza) (h:=af jK (h:=ag O2 (h:=ai (es:=[_]) (fun _=>dH xb hzb) (h:=az fX (ys:=[fB [116,105,99,107],fD xa,fD xb].map Fd.c) (xs:=[_,_,_]) (es:=[_,_,_]) (hcs:=CellsOfs.cons (CellsOf.agg rfl) (CellsOfs.cons (CellsOf.agg rfl) (CellsOfs.cons (CellsOf.agg rfl) (CellsOfs.nil)))) (hys:=rfl) (h:=ae (h:=af dQ (h:=ag O3 (h:=?_))))))))))))));refine bL rI (hj:=fun _=>⟨by dsimp only;omega,by dsimp only;omega⟩) (h:=af fV (h:=ag O3 (h:=aG (h:=iz zf (ha:=fun _=>by simp) (h:=aK (es:=[_]) (first:=[]) (cap:=[_]) [1] (Hg ac (by omega) (hY ⟨4,xa,xb⟩) (by show(2:Nat)≤_;decide)) (h:=Reg.nil ⟨fun _=>⟨aQ,by rfl,by rfl⟩,.inBlock (.region rfl (aG (h:=ae (h:=.n0 (.inLoop ?_)))))⟩))))));exact LGo.next _ (fun o h=>by have:=(hA o).1 h;omega) (by omega) (ih3 (m+1,ac++lnF (hY ⟨4,xa,xb⟩)) ⟨by dsimp only;omega,by dsimp only;rw[List.length_append];omega,by dsimp only;rw[←hq2];simp⟩ (by dsimp only;omega)) (by repeat (first|exact trivial|refine⟨rfl,?_⟩)) ⟨rfl,rfl,rfl,rfl,rfl,rfl,rfl,rfl,rfl,trivial⟩;rw[List.drop_eq_nil_of_le (show s.evs.length≤m by omega),List.map_nil,List.flatten_nil,List.append_nil]at hq2;subst hq2;refine .exit rfl (.seq (.region rfl (aK (es:=[_]) [1] (Iq ac hF0 (by omega)) (h:=aa (h:=aa (h:=.n0 ?_))))));exact LGo.ret (aI Tryz.results6 hA hmd)
theorem D2(x:VnS):oN x=[115,101,99,116,105,111,110,32]++x.name++[32]++Lib.itoa x.queue++Lib.joinTail [32] (x.rows.map Lib.itoa)++[10]:=by
 unfold oN oU;rw[Lib.join_cons,show Lib.joinTail [32] (x.name::Lib.itoa x.queue::x.rows.map Lib.itoa)=([32]++x.name)++(([32]++Lib.itoa x.queue)++Lib.joinTail [32] (x.rows.map Lib.itoa))from rfl];simp
theorem zE(v:Ven):cC v=([115,104,97,114,100,115,32]++Lib.itoa v.shards++[10,116,116,108,32]++Lib.itoa v.ttl++[10,115,101,115,115,105,111,110,32]++Lib.itoa v.session++[10])++(v.secs.map oN).flatten:=by
 have h:∀a b:List UInt8,oU [a,b]=a++[32]++b++[10]:=fun a b=>by
  unfold oU;rw[Lib.join_cons,show Lib.joinTail [32] [b]=([32]++b)++[]from rfl];simp
 unfold cC;rw[h,h,h];simp
theorem zF(v:Ven)(h0:(cm v).2=0)(hv:zd v):PC Tryz.prog 33 [.agg (v.c.map LV.sv)] (.tup [.t (cC v),.i 0]):=by
 refine⟨LC.of_go Tryz.func33 (c:=_) rfl (by kernel_rfl) (by rw[Tryz.ntmps33];simp) rfl rfl (by simp[LO.lt,an,LV.lt,aq]) (by simp) ?_⟩;intro B hA hmd;obtain⟨F,hF⟩:∃F,cC v=F:=⟨_,rfl⟩;rw[hF];rw[zE]at hF;obtain⟨n1,n2,n3,vl,vs⟩:=id hv;have d1:=bt n1;have d2:=bt n2;have d3:=bt n3;unfold c8 at n1 n2 n3;refine .seq (.region rfl (bg (h:=aa (h:=aa (h:=.n0 (.seq (.region rfl (aB sM (h:=ai (es:=[_]) (fun _=>oG v ⟨by omega,fun x hx=>by have:=(vs x hx).1;omega⟩) (h:=ae (h:=ak (h:=ak (h:=?_)))))))))))));rw[h0];refine aa (h:=aa (h:=.n0 (.seq (.seq (.region rfl (ae (h:=ah (aC _ _ _ _ _ _) (h:=.n0 ?_))))))));refine aj (ht:=fun hc=>by simp at hc) (hf:=fun hc=>?_);refine .skip (.seq (.region rfl (af lX (h:=ag O3 (h:=ai (es:=[_]) (fun _=>dx v.shards (by omega) (by omega)) (h:=ah (aN _ _ _ ([115,104,97,114,100,115,32]) (Lib.itoa v.shards) (by first|omega|(simp only[List.length_append,List.length_cons,List.length_nil]at*;omega))) (h:=ah (aN _ _ _ ([115,104,97,114,100,115,32]++Lib.itoa v.shards) ([10,116,116,108,32]) (by first|omega|(simp only[List.length_append,List.length_cons,List.length_nil]at*;omega))) (h:=af lW (h:=ag O2 (h:=ai (es:=[_]) (fun _=>dx v.ttl (by omega) (by omega)) (h:=ah (aN _ _ _ ([115,104,97,114,100,115,32]++Lib.itoa v.shards++[10,116,116,108,32]) (Lib.itoa v.ttl) (by first|omega|(simp only[List.length_append,List.length_cons,List.length_nil]at*;omega))) (h:=ah (aN _ _ _ ([115,104,97,114,100,115,32]++Lib.itoa v.shards++[10,116,116,108,32]++Lib.itoa v.ttl) ([10,115,101,115,115,105,111,110,32]) (by first|omega|(simp only[List.length_append,List.length_cons,List.length_nil]at*;omega))) (h:=af lU (h:=?_))))))))))))));refine ag O2 (h:=ai (es:=[_]) (fun _=>dx v.session (by omega) (by omega)) (h:=ah (aN _ _ _ ([115,104,97,114,100,115,32]++Lib.itoa v.shards++[10,116,116,108,32]++Lib.itoa v.ttl++[10,115,101,115,115,105,111,110,32]) (Lib.itoa v.session) (by first|omega|(simp only[List.length_append,List.length_cons,List.length_nil]at*;omega))) (h:=ah (aN _ _ _ ([115,104,97,114,100,115,32]++Lib.itoa v.shards++[10,116,116,108,32]++Lib.itoa v.ttl++[10,115,101,115,115,105,111,110,32]++Lib.itoa v.session) ([10]) (by first|omega|(simp only[List.length_append,List.length_cons,List.length_nil]at*;omega))) (h:=aa (h:=Reg.nil ⟨fun _=>⟨aQ,by rfl,by rfl⟩,?_⟩)))));obtain⟨M3,hM3⟩:∃M,[115,104,97,114,100,115,32]++Lib.itoa v.shards++[10,116,116,108,32]++Lib.itoa v.ttl++[10,115,101,115,115,105,111,110,32]++Lib.itoa v.session++[10]=M:=⟨_,rfl⟩;have hm3:M3.length≤200:=by rw[←hM3];simp only[List.length_append,List.length_cons,List.length_nil];omega
 rw[hM3]at hF⊢;refine .seq (.seq (.region rfl (aa (h:=.n0 (.block (.loop ?_))))));refine ay (σ:=Nat×List UInt8) (fun x=>x.1≤v.secs.length∧x.2.length≤200+3000*x.1∧x.2++((v.secs.drop x.1).map oN).flatten=F) (fun x=>[(7,(true,.i (x.1:Nat))),(6,(true,.t x.2))]) (fun x=>[(0,.box 24 (v.c.map LV.sv))]) (fun x=>v.secs.length-x.1) (0,M3) [(1,_)] ⟨Nat.zero_le _,by dsimp only;omega,hF⟩ (by repeat (first|exact trivial|refine⟨rfl,?_⟩)) (by repeat (first|exact trivial|refine⟨rfl,?_⟩)) (by repeat (first|exact trivial|refine⟨rfl,?_⟩)) ?_;rintro⟨k,acc⟩ ⟨hk,hal,hq⟩ ih;dsimp only at*;refine .seq (.seq (.region rfl (ae (h:=af cG (h:=ag kC (h:=aF sK (h:=?_)))))));rw[List.length_map];refine ah (au _ _ _ _ _ _) (h:=.n0 ?_);refine ao (ht:=fun hc2=>?_) (hf:=fun hc2=>?_);have hlt:k<v.secs.length:=by omega
 have hx:(v.secs.map VnS.c)[((k:Nat):Int).toNat]?=some v.secs[k].c:=by simp[hlt]
 have hd:v.secs.drop k=v.secs[k]::v.secs.drop (k+1):=List.drop_eq_getElem_cons hlt;have hz:=vs v.secs[k] (List.getElem_mem hlt);rw[hd,List.map_cons,List.flatten_cons]at hq;generalize v.secs[k]=z at hx hq hz;clear hd;obtain⟨hz1,hz2,hz3,hz4⟩:=hz;have hdq:=bt hz4;have hdr:=kq hz3;unfold c8 at hz4;obtain⟨SZ,hSZ⟩:∃S,oN z=S:=⟨_,rfl⟩;rw[hSZ]at hq;rw[D2]at hSZ;refine .skip (.seq (.block (.seq (.region rfl (af cG (h:=ag kC (h:=ae (h:=aw wz (hj:=fun hg=>⟨by omega,hx⟩) (h:=aR rj (h:=aD DF (h:=ar rj (h:=.n0 (.seq ?_)))))))))))));refine .region rfl (ae (h:=ah (aN _ _ _ (acc) ([115,101,99,116,105,111,110,32]) (by first|omega|(simp only[List.length_append,List.length_cons,List.length_nil]at*;omega))) (h:=af ij (h:=ag O9 (h:=ah (aN _ _ _ (acc++[115,101,99,116,105,111,110,32]) (z.name) (by first|omega|(simp only[List.length_append,List.length_cons,List.length_nil]at*;omega))) (h:=ah (aN _ _ _ (acc++[115,101,99,116,105,111,110,32]++z.name) ([32]) (by first|omega|(simp only[List.length_append,List.length_cons,List.length_nil]at*;omega))) (h:=af oh (h:=ag O3 (h:=ai (es:=[_]) (fun _=>dx z.queue (by omega) (by omega)) (h:=ah (aN _ _ _ (acc++[115,101,99,116,105,111,110,32]++z.name++[32]) (Lib.itoa z.queue) (by first|omega|(simp only[List.length_append,List.length_cons,List.length_nil]at*;omega))) (h:=aa (h:=Reg.nil ⟨fun _=>⟨aQ,by rfl,by rfl⟩,.seq ?_⟩))))))))))));refine .seq (.region rfl (aa (h:=.n0 (.block (.loop ?_)))));refine ay (σ:=Nat×List UInt8) (fun x=>x.1≤z.rows.length∧x.2.length≤acc.length+200+23*x.1∧x.2++Lib.joinTail [32] ((z.rows.drop x.1).map Lib.itoa)++[10]=acc++SZ) (fun x=>[(9,(true,.i (x.1:Nat))),(6,(true,.t x.2))]) (fun x=>[(0,.box 24 (v.c.map LV.sv)),(1,.box 40 (z.c.map LV.sv))]) (fun x=>z.rows.length-x.1) (0,acc++[115,101,99,116,105,111,110,32]++z.name++[32]++Lib.itoa z.queue) [(1,_),(7,_),(8,_)] ⟨Nat.zero_le _,by dsimp only;simp only[List.length_append,List.length_cons,List.length_nil];omega,by dsimp only;rw[←hSZ];simp⟩ (by repeat (first|exact trivial|refine⟨rfl,?_⟩)) (by repeat (first|exact trivial|refine⟨rfl,?_⟩)) (by repeat (first|exact trivial|refine⟨rfl,?_⟩)) ?_;rintro⟨j,ad⟩ ⟨hj,hjl,hjq⟩ ih2;dsimp only at*;refine .seq (.seq (.region rfl (ae (h:=af ej (h:=ag gP (h:=aF iE (h:=?_)))))));rw[bp];refine ah (au _ _ _ _ _ _) (h:=.n0 ?_);refine ao (ht:=fun hc3=>?_) (hf:=fun hc3=>?_);have hltj:j<z.rows.length:=by omega
 have hx2:=wv (l:=z.rows) hltj;have hn:=hz3 _ (List.getElem_mem hltj);rw[List.drop_eq_getElem_cons hltj,List.map_cons,show∀(b:List UInt8) l,Lib.joinTail [32] (b::l)=([32]++b)++Lib.joinTail [32] l from fun _ _=>rfl]at hjq;generalize z.rows[j]=n at hx2 hn hjq;have hdn:=bt hn;unfold c8 at hn;refine .skip (.seq (.block (.region rfl (ae (h:=ah (aN _ _ _ (ad) ([32]) (by first|omega|(simp only[List.length_append,List.length_cons,List.length_nil]at*;omega))) (h:=af ej (h:=ag gP (h:=ae (h:=aw jH (hj:=fun hg=>⟨by omega,hx2⟩) (h:=aM O3 (h:=ai (es:=[_]) (fun _=>dx n (by omega) (by omega)) (h:=ah (aN _ _ _ (ad++[32]) (Lib.itoa n) (by first|omega|(simp only[List.length_append,List.length_cons,List.length_nil]at*;omega))) (h:=aa (h:=?_))))))))))))));refine .n0 (.inBlock (.region rfl (ae (h:=aG (h:=aa (h:=.n0 (.inLoop ?_)))))));exact LGo.next _ (fun o h=>by have:=(hA o).1 h;omega) (by omega) (ih2 (j+1,ad++[32]++Lib.itoa n) ⟨by dsimp only;omega,by dsimp only;simp only[List.length_append,List.length_cons,List.length_nil];omega,by dsimp only;rw[←hjq];simp⟩ (by dsimp only;omega)) (by repeat (first|exact trivial|refine⟨rfl,?_⟩)) (by repeat (first|exact trivial|refine⟨rfl,?_⟩));obtain rfl:j=z.rows.length:=by omega
 rw[List.drop_length,List.map_nil,show Lib.joinTail [32] []=[]from rfl,List.append_nil]at hjq;refine .exit rfl (.region rfl (ae (h:=ah (aN _ _ _ (ad) ([10]) (by first|omega|(simp only[List.length_append,List.length_cons,List.length_nil]at*;omega))) (h:=?_))));rw[hjq];refine aa (h:=.n0 (.inBlock (.region rfl (ae (h:=aG (h:=aa (h:=.n0 (.inLoop ?_))))))));exact LGo.next _ (fun o h=>by have:=(hA o).1 h;omega) (by omega) (ih (k+1,acc++SZ) ⟨by dsimp only;omega,by dsimp only;rw[←hjq,List.length_append,List.length_cons,List.length_nil];omega,by dsimp only;rw[←hq];simp⟩ (by dsimp only;omega)) (by repeat (first|exact trivial|refine⟨rfl,?_⟩)) (by repeat (first|exact trivial|refine⟨rfl,?_⟩));rw[List.drop_eq_nil_of_le (show v.secs.length≤k by omega),List.map_nil,List.flatten_nil,List.append_nil]at hq;subst hq;refine .exit rfl (.seq (.region rfl (ae (h:=aa (h:=aa (h:=.n0 ?_))))));exact LGo.ret (aI Tryz.results33 hA hmd)
theorem lg:∀(l:List UInt8) (a:Nat),aY a l=a*10^l.length+aY 0 l
 |[],a=>by simp[aY]
 |c::l,a=>by
  have h1:=lg l (a*10+(c.toNat-48));have h2:=lg l (0*10+(c.toNat-48));show aY (a*10+(c.toNat-48)) l=a*10^(l.length+1)+aY (0*10+(c.toNat-48)) l;rw[h1,h2,Nat.pow_succ,Nat.add_mul,Nat.zero_mul,Nat.zero_add,Nat.mul_assoc,Nat.mul_comm 10,Nat.add_assoc]
theorem iW(c:UInt8)(l:List UInt8):aY 0 (c::l)=(c.toNat-48)*10^l.length+aY 0 l:=by
 have:=lg l (0*10+(c.toNat-48));show aY (0*10+(c.toNat-48)) l=_;rw[this,Nat.zero_mul,Nat.zero_add]
theorem mc:∀(l:List UInt8),l.all cd=true→aY 0 l<10^l.length
 |[],_=>by simp[aY]
 |c::l,h=>by
  rw[List.all_cons,Bool.and_eq_true]at h;have h1:=mc l h.2;have h2:c.toNat-48≤9:=by have:=h.1;unfold cd at this;simp at this;omega
  rw[iW,List.length_cons,Nat.pow_succ];have h3:(c.toNat-48)*10^l.length≤9*10^l.length:=Nat.mul_le_mul_right _ h2;omega
theorem uD{c:UInt8}{l:List UInt8}(h:cd c=true)(h0:¬c.toNat=48):10^l.length≤aY 0 (c::l):=by
 have h2:1≤c.toNat-48:=by unfold cd at h;simp at h;omega
 have h3:1*10^l.length≤(c.toNat-48)*10^l.length:=Nat.mul_le_mul_right _ h2;rw[iW];omega
def gR(a b:List UInt8):Int:=if¬(a.length:Int)=b.length then(a.length:Int)-b.length else Lib.compareBytes a b
theorem vF:∀(a b:List UInt8),a.length=b.length→a.all cd=true→b.all cd=true→(Lib.compareBytes a b<0↔aY 0 a<aY 0 b)∧(0<Lib.compareBytes a b↔aY 0 b<aY 0 a)
 |[],[],_,_,_=>by simp[Lib.compareBytes,aY]
 |[],_::_,h,_,_=>by simp at h
 |_::_,[],h,_,_=>by simp at h
 |x::a,y::b,hl,ha,hb=>by
  rw[List.all_cons,Bool.and_eq_true]at ha hb;have hl':a.length=b.length:=by simpa using hl
  obtain⟨i1,i2⟩:=vF a b hl' ha.2 hb.2;have la:=mc a ha.2;have lb:=mc b hb.2;have hx:48≤x.toNat:=by have:=ha.1;unfold cd at this;simp at this;omega
  have hy:48≤y.toNat:=by have:=hb.1;unfold cd at this;simp at this;omega
  rw[iW,iW,Lib.compareBytes,hl'];rw[hl']at la;generalize hP:10^b.length=P at*;by_cases h1:x<y;rw[if_pos h1];have h1':x.toNat<y.toNat:=UInt8.lt_iff_toNat_lt.1 h1;have:(x.toNat-48+1)*P≤(y.toNat-48)*P:=Nat.mul_le_mul_right _ (by omega);rw[Nat.add_mul]at this;omega;rw[if_neg h1];by_cases h2:y<x;rw[if_pos h2];have h2':y.toNat<x.toNat:=UInt8.lt_iff_toNat_lt.1 h2;have:(y.toNat-48+1)*P≤(x.toNat-48)*P:=Nat.mul_le_mul_right _ (by omega);rw[Nat.add_mul]at this;omega;rw[if_neg h2];have he:x.toNat=y.toNat:=by
   have a1:¬x.toNat<y.toNat:=fun h=>h1 (UInt8.lt_iff_toNat_lt.2 h);have a2:¬y.toNat<x.toNat:=fun h=>h2 (UInt8.lt_iff_toNat_lt.2 h);omega
  rw[he];omega
theorem eH{t:List UInt8}(h:di t=true):∃c l,t=c::l∧cd c=true∧l.all cd=true∧(l≠[]→¬c.toNat=48):=by
 unfold di at h;split at h;cases h
 rename_i hn;cases t with
 |nil=>exact absurd (.inl rfl) hn
 |cons c l=>
  rw[List.all_cons,Bool.and_eq_true]at h;refine⟨c,l,rfl,h.1,h.2,fun hl h48=>hn (.inr ⟨?_,h48⟩)⟩;have:=List.length_pos_iff.2 hl;simp;omega
theorem kR{a b:List UInt8}(ha:di a=true)(hb:di b=true)(h:a.length<b.length):aY 0 a<aY 0 b:=by
 obtain⟨c,l,rfl,h1,h2,_⟩:=eH ha;obtain⟨d,m,rfl,h4,h5,h6⟩:=eH hb;have l1:=mc (c::l) (by rw[List.all_cons,h1,h2];rfl);have hm:m≠[]:=by intro e;subst e;simp at h
 have l2:=uD (l:=m) h4 (h6 hm);have:10^(c::l).length≤10^m.length:=Nat.pow_le_pow_right (by omega) (by simp at h⊢;omega);omega
theorem ky{t:List UInt8}(h:di t=true):t.all cd=true:=by
 obtain⟨c,l,rfl,h1,h2,_⟩:=eH h;rw[List.all_cons,h1,h2];rfl
theorem kg{a b:List UInt8}(ha:di a=true)(hb:di b=true):(gR a b<0↔aY 0 a<aY 0 b)∧(0<gR a b↔aY 0 b<aY 0 a):=by
 unfold gR;by_cases h:(a.length:Int)=b.length;rw[if_neg (by simpa using h)];exact vF a b (by omega) (ky ha) (ky hb);rw[if_pos h];rcases Nat.lt_or_gt_of_ne (show a.length≠b.length by omega)with h1|h1
 have:=kR ha hb h1;omega;have:=kR hb ha h1;omega
def ia:List UInt8→List UInt8
 |[]=>[49]
 |c::r=>if c=57 then 48::ia r else(c+1)::r
def ef(s:List UInt8):List UInt8:=(ia s.reverse).reverse
theorem lh(l:List UInt8)(c:UInt8):aY 0 (l++[c])=aY 0 l*10+(c.toNat-48):=by unfold aY;rw[List.foldl_append];rfl
theorem mi{c:UInt8}(h:cd c=true)(h9:¬c=57):(c+1).toNat=c.toNat+1∧cd (c+1)=true∧48≤c.toNat∧c.toNat≤56:=by
 have h1:¬c.toNat=57:=fun e=>h9 (UInt8.toNat.inj e);unfold cd at h⊢;simp at h;have:(c+1).toNat=c.toNat+1:=by rw[UInt8.toNat_add];simp;omega
 rw[this];simp;omega
theorem vi:∀(r:List UInt8),r.all cd=true→aY 0 (ia r).reverse=aY 0 r.reverse+1
 |[],_=>rfl
 |c::r,h=>by
  rw[List.all_cons,Bool.and_eq_true]at h;rw[ia,List.reverse_cons,lh];split;rename_i h9;rw[List.reverse_cons,lh,vi r h.2,h9];show(aY 0 r.reverse+1)*10+(48-48)=aY 0 r.reverse*10+(57-48)+1;omega;rename_i h9;obtain⟨h1,_,h3,_⟩:=mi h.1 h9;rw[List.reverse_cons,lh,h1];omega
theorem vj:∀(r:List UInt8),r.all cd=true→(ia r).all cd=true
 |[],_=>rfl
 |c::r,h=>by
  rw[List.all_cons,Bool.and_eq_true]at h;rw[ia];split;rw[List.all_cons,vj r h.2];rfl;rename_i h9;rw[List.all_cons,(mi h.1 h9).2.1,h.2];rfl
theorem yD(r:List UInt8):ia r≠[]:=by cases r with|nil=>simp[ia]|cons c r=>rw[ia];split<;>simp
theorem nq:∀(r:List UInt8),r.all cd=true→r≠[]→(r.getLast?.getD 0).toNat≠48→((ia r).getLast?.getD 0).toNat≠48
 |[],_,h,_=>absurd rfl h
 |[c],ha,_,h=>by
  rw[ia];split;simp[ia];rename_i h9;obtain⟨h1,_,h3,_⟩:=mi (c:=c) (by simpa using ha) h9;simp[h1]at h⊢;omega
 |c::d::r,ha,_,h=>by
  rw[List.all_cons,Bool.and_eq_true]at ha;rw[ia];split;have ih:=nq (d::r) ha.2 (by simp) (by simpa using h);have hne:=yD (d::r)
  match hi:ia (d::r),hne with
  |x::xs,_=>
   rw[hi]at ih;simpa using ih
  simpa using h
theorem rZ{s:List UInt8}(h:di s=true):di (ef s)=true∧aY 0 (ef s)=aY 0 s+1:=by
 have hd:=ky h;have hr:s.reverse.all cd=true:=by rw[List.all_reverse];exact hd
 have hv:=vi s.reverse hr;rw[List.reverse_reverse]at hv;refine⟨?_,hv⟩;obtain⟨c,l,rfl,h1,h2,h3⟩:=eH h;have ha:(ef (c::l)).all cd=true:=by unfold ef;rw[List.all_reverse];exact vj _ hr
 have hne:ef (c::l)≠[]:=by unfold ef;simp[yD]
 unfold di;rw[if_neg,ha];rintro(h4|⟨h4,h5⟩);exact hne h4;have e1:((ef (c::l)).headD 0)=((ia (c::l).reverse).getLast?.getD 0):=by
  unfold ef;rw[List.headD_eq_head?_getD,List.head?_reverse]
 rw[e1]at h5;by_cases hl:l=[];subst hl;by_cases h48:c=48;subst h48;unfold ef at h4;simp[ia]at h4;exact nq [c] (by simpa using hd) (by simp) (by simp;intro e;exact h48 (UInt8.toNat.inj e)) h5;exact nq _ hr (by simp) (by rw[List.getLast?_reverse];simpa using h3 hl) h5
theorem jZ:∀(k:Nat) (p:List UInt8),ef (p++List.replicate k 57)=(ia p.reverse).reverse++List.replicate k 48
 |0,p=>by simp[ef]
 |k+1,p=>by
  have ih:=jZ k p;unfold ef at ih⊢;rw[List.reverse_append,List.reverse_replicate]at ih⊢;rw[List.replicate_succ,List.cons_append,ia,if_pos rfl,List.reverse_cons,ih,List.replicate_succ',List.append_assoc]
theorem zP(k:Nat):ef (List.replicate k 57)=49::List.replicate k 48:=by have:=jZ k [];simpa[ia]using this
theorem zO(q:List UInt8)(c:UInt8)(k:Nat)(h:¬c=57):ef (q++[c]++List.replicate k 57)=q++[c+1]++List.replicate k 48:=by
 rw[jZ,List.reverse_append,List.reverse_singleton,List.singleton_append,ia,if_neg h,List.reverse_cons,List.reverse_reverse]
theorem Aj(a b:List UInt8):PC Tryz.prog 253 [.t a,.t b] (.i (Lib.compareBytes a b)):=
 cL (Entr.of Tryz.func253 rfl (by kernel_rfl)) (by simp[an,LV.lt]) fun cx w vs hl ham hv=>by
  obtain⟨v1,v2,rfl,h2,h3⟩:∃v1 v2,vs=[v1,v2]∧V cx w (.t a) v1∧V cx w (.t b) v2:=by
   simp only[Vs]at hv;obtain⟨v1,r1,rfl,h1,v2,r2,rfl,h2,rfl⟩:=hv;exact⟨_,_,rfl,h1,h2⟩
  rw[h2.val,h3.val];refine(Tryz.strings_Compare ⟨a.toArray⟩ ⟨b.toArray⟩ w).mono ?_;rintro e w' ⟨rfl,rfl⟩;exact⟨rfl,rfl,rfl,rfl,Nat.le_refl _,fun _ _=>rfl⟩
theorem s5(a b:List UInt8)(ha:a.length≤100000)(hb:b.length≤100000):PC Tryz.prog 224 [.t a,.t b] (.i (gR a b)):=by
 refine⟨LC.of_go Tryz.func224 (c:=_) rfl (by kernel_rfl) (by rw[Tryz.ntmps224];simp) rfl rfl (by simp[LO.lt,an,LV.lt,aq]) (by simp) ?_⟩;intro B hA hmd;obtain⟨g,e0⟩:∃g,gR a b=g:=⟨_,rfl⟩;have e1:=e0;unfold gR at e1;rw[e0];refine .seq (.region rfl (aa (h:=.n0 (.seq (.seq (.region rfl (ae (h:=bC Tryz.runUnderlying9 (h:=ae (h:=bC Tryz.runUnderlying9 (h:=ah (aC _ _ _ _ _ _) (h:=.n0 ?_))))))))))));refine aj (ht:=fun hc=>?_) (hf:=fun hc=>?_);rw[if_pos (by simpa using hc)]at e1;rw[←e1];refine .seq (.region rfl (ae (h:=bC Tryz.runUnderlying9 (h:=ae (h:=bC Tryz.runUnderlying9 (h:=dD (h:=aa (h:=.n0 ?_))))))));exact LGo.ret (ax Tryz.results224 hA hmd);rw[if_neg (by simpa using hc)]at e1;rw[←e1];refine .skip (.seq (.region rfl (ae (h:=ae (h:=ai (es:=[_,_]) (fun _=>Aj a b) (h:=aa (h:=.n0 ?_)))))));exact LGo.ret (ax Tryz.results224 hA hmd)
def fP(s:List UInt8):Nat→Int
 |0=>-1
 |k+1=>if(s.getD k 0)=57 then fP s k else(k:Int)
theorem xv(q:List UInt8)(c:UInt8)(hq:q.length≤100000)(hc8:c.toNat<128):PC Tryz.prog 265 [.t (q++[c])] (.tup [.v (.int .i32 c.toNat),.i 1]):=by
 refine⟨LC.of_go Tryz.func265 (c:=_) rfl (by kernel_rfl) (by rw[Tryz.ntmps265];simp) rfl rfl (by simp[LO.lt,an,LV.lt,aq]) (by simp) ?_⟩;intro B hA hmd;refine .seq (.region rfl (aa (h:=aa (h:=.n0 (.seq (.region rfl (ae (h:=bC Tryz.runUnderlying9 (h:=?_)))))))));rw[show(((q++[c]).length:Nat):Int)=(q.length:Int)+1 from by simp];refine aa (h:=.n0 (.seq (.seq (.region rfl (ae (h:=ah (av _ _ _ _ _ _) (h:=.n0 ?_)))))));refine aj (ht:=fun hc=>by simp at hc;omega) (hf:=fun hc=>?_);refine .skip (.seq (.region rfl (ae (h:=dD (h:=aa (h:=.n0 (.seq (.region rfl (ae (h:=ae (h:=bu Tryz.runUnderlying9 (c:=c) (hj:=fun hg=>⟨by omega,by rw[show Int.toNat ((q.length:Int)+1-1)=q.length from by omega];simp⟩) (h:=dN Tryz.runUnderlying5 Tryz.runUnderlying21 (h:=?_)))))))))))));rw[show IntKind.i32.wrap (c.toNat:Int)=(c.toNat:Int)from by rw[IntKind.wrap_i32];omega];refine aa (h:=.n0 (.seq (.seq (.region rfl (ae (h:=ah (au _ _ _ _ _ _) (h:=.n0 ?_)))))));refine aj (ht:=fun hc2=>?_) (hf:=fun hc2=>by simp at hc2;omega);refine .seq (.region rfl (ae (h:=aa (h:=aa (h:=.n0 ?_)))));exact LGo.ret (aI Tryz.results265 hA hmd)
theorem GB(x:Int):PC Tryz.prog 255 [.v (.int .i32 x)] (.b (!decide (x=57))):=by
 refine⟨LC.of_go Tryz.func255 (c:=_) rfl (by kernel_rfl) (by rw[Tryz.ntmps255];simp) rfl rfl (by simp[LO.lt,an,LV.lt,aq]) (by simp) ?_⟩;intro B hA hmd;refine .seq (.region rfl (aa (h:=.n0 (.seq (.region rfl (ae (h:=ah (aC _ _ _ _ _ _) (h:=aa (h:=.n0 ?_)))))))));exact LGo.ret (ax Tryz.results255 hA hmd)
theorem zT(s:List UInt8)(hs:s.length≤100000)(h8:∀c∈s,c.toNat<128):PC Tryz.prog 271 [.t s,.fn (.func 255) [] [],.b true] (.i (fP s s.length)):=by
 refine⟨LC.of_go Tryz.func271 (c:=_) rfl (by kernel_rfl) (by rw[Tryz.ntmps271];simp) rfl rfl (by simp[LO.lt,an,LV.lt,aq]) (by simp) ?_⟩;intro B hA hmd;obtain⟨g,e0⟩:∃g,fP s s.length=g:=⟨_,rfl⟩;rw[e0];refine .seq (.region rfl (aa (h:=.n0 (.seq (.seq (.region rfl (ae (h:=bC Tryz.runUnderlying9 (h:=aa (h:=.n0 (.block (.loop ?_))))))))))));refine ay (σ:=Nat) (fun x=>x≤s.length∧fP s x=g) (fun x=>[(7,(true,.i (x:Nat)))]) (fun x=>[]) (fun x=>x) (s.length) [(0,_),(1,_),(2,_)] ⟨Nat.le_refl _,e0⟩ (by repeat (first|exact trivial|refine⟨rfl,?_⟩)) (by repeat (first|exact trivial|refine⟨rfl,?_⟩)) (by repeat (first|exact trivial|refine⟨rfl,?_⟩)) ?_;rintro k ⟨hk,hg⟩ ih;refine .seq (.seq (.region rfl (ae (h:=ah (aJ _ _ _ _ _ _) (h:=.n0 ?_)))));refine ao (ht:=fun hc=>?_) (hf:=fun hc=>?_);obtain⟨j,rfl⟩:∃j,k=j+1:=⟨k-1,by omega⟩;have hj:j<s.length:=by omega
 rw[fP,List.getD_eq_getElem?_getD,List.getElem?_eq_getElem hj,Option.getD_some]at hg;have htk:=List.take_succ_eq_append_getElem hj;have hc8:=h8 s[j] (List.getElem_mem hj);generalize s[j]=c at hg htk hc8;refine .skip (.block (.seq (.region rfl (ae (h:=ae (h:=tW Tryz.runUnderlying9 (ha:=fun _=>by simp;omega) (h:=?_)))))));rw[show Int.toNat ((j+1:Nat):Int)=j+1 from rfl,show Int.toNat 0=0 from rfl,List.drop_zero,htk];refine ai (es:=[_]) (fun _=>xv (s.take j) c (by rw[List.length_take];omega) hc8) (h:=ae (h:=ak (h:=ak (h:=aa (h:=aa (h:=.n0 (.seq (.region rfl (ae (h:=ae (h:=dD (h:=?_))))))))))));rw[show((j+1:Nat):Int)-1=(j:Int)from by omega];refine aa (h:=.n0 (.seq (.region rfl (ae (h:=ae (h:=cH (m:=0) (Hi:=[]) (es:=[_]) (first:=[]) (cap:=[]) (avs:=[.v (.int .i32 (c.toNat:Int))]) (out:= .b (!decide ((c.toNat:Int)=57))) (GB (c.toNat:Int)).lc (hL:=fun k x h=>by cases h) (h:=ae (h:=ah (B2 Tryz.underlying4 _ _ _ _) (h:=.n0 ?_)))))))));refine aj (ht:=fun hc2=>?_) (hf:=fun hc2=>?_);have h9:¬c=57:=by intro e;subst e;simp at hc2
 rw[if_neg h9]at hg;rw[←hg];refine .seq (.region rfl (ae (h:=aa (h:=.n0 ?_))));exact LGo.ret (ax Tryz.results271 hA hmd);have h9:c=57:=UInt8.toNat.inj (by simp at hc2;show c.toNat=57;omega);rw[if_pos h9]at hg;refine .skip (.inBlock (.inLoop ?_));exact LGo.next _ (fun o h=>by have:=(hA o).1 h;omega) (by omega) (ih j ⟨by omega,hg⟩ (by omega)) (by repeat (first|exact trivial|refine⟨rfl,?_⟩)) (by repeat (first|exact trivial|refine⟨rfl,?_⟩));obtain rfl:k=0:=by omega
 rw[fP]at hg;rw[←hg];refine .exit rfl (.seq (.region rfl (aa (h:=.n0 ?_))));exact LGo.ret (ax Tryz.results271 hA hmd)
theorem qt:∀k:Nat,Lib.repeatL [48] k=List.replicate k 48
 |0=>rfl
 |k+1=>by rw[Lib.repeatL,qt k];rfl
theorem uS(k:Nat)(hk:k≤100000):PC Tryz.prog 256 [.t [48],.i k] (.t (List.replicate k 48)):=
 cL (Entr.of Tryz.func256 rfl (by kernel_rfl)) (by simp[an,LV.lt]) fun cx w vs hl ham hv=>by
  obtain⟨v1,v2,rfl,h2,h3⟩:∃v1 v2,vs=[v1,v2]∧V cx w (.t [48]) v1∧V cx w (.i k) v2:=by
   simp only[Vs]at hv;obtain⟨v1,r1,rfl,h1,v2,r2,rfl,h2,rfl⟩:=hv;exact⟨_,_,rfl,h1,h2⟩
  rw[h2.val,h3.val];refine(Tryz.strings_Repeat ⟨#[48]⟩ k w (by omega) (by show 1*k≤_;omega)).mono ?_;rintro e w' ⟨rfl,hb⟩;exact⟨by rw[←qt],hb⟩
theorem qF(q:List UInt8)(c:UInt8)(h:¬c=57)(m:Nat):∀j:Nat,j≤m→fP (q++[c]++List.replicate m 57) (q.length+1+j)=(q.length:Nat)
 |0,_=>by
  rw[Nat.add_zero,fP,if_neg];simpa[List.getD_eq_getElem?_getD]using h
 |j+1,hj=>by
  rw[←Nat.add_assoc,fP,if_pos,qF q c h m j (by omega)];have e:(q++[c]).length=q.length+1:=by simp
  rw[List.getD_eq_getElem?_getD,List.getElem?_append_right (by omega),e,show q.length+1+j-(q.length+1)=j from by omega,List.getElem?_replicate,if_pos (by omega)];rfl
theorem qG(m:Nat):∀j:Nat,j≤m→fP (List.replicate m 57) j=-1
 |0,_=>rfl
 |j+1,hj=>by
  rw[fP,if_pos,qG m j (by omega)];simp[List.getD_eq_getElem?_getD,List.getElem?_replicate,show j<m from hj]
theorem xn:∀s:List UInt8,(∃m,s=List.replicate m 57)∨∃q c m,s=q++[c]++List.replicate m 57∧¬c=57:=by
 intro s;have key:∀r:List UInt8,(∃m,r=List.replicate m 57)∨∃q c m,r=List.replicate m 57++c::q∧¬c=57:=by
  intro r;induction r with
  |nil=>exact .inl ⟨0,rfl⟩
  |cons x r ih=>
   by_cases hx:x=57;subst hx;rcases ih with⟨m,rfl⟩|⟨q,c,m,rfl,h⟩
   exact .inl ⟨m+1,rfl⟩;exact .inr ⟨q,c,m+1,rfl,h⟩;exact .inr ⟨r,x,0,rfl,hx⟩
 rcases key s.reverse with⟨m,h⟩|⟨q,c,m,h,h9⟩
 refine .inl ⟨m,?_⟩;have:=congrArg List.reverse h;simpa using this;refine .inr ⟨q.reverse,c,m,?_,h9⟩;have:=congrArg List.reverse h;simpa using this
theorem E4{c:UInt8}(h:cd c=true):c.toNat<128:=by unfold cd at h;simp at h;omega
theorem qH(s:List UInt8)(hs:s.length≤100000)(h8:∀c∈s,c.toNat<128):PC Tryz.prog 254 [.t s,.fn (.func 255) [] []] (.i (fP s s.length)):=by
 refine⟨LC.of_go Tryz.func254 (c:=_) rfl (by kernel_rfl) (by rw[Tryz.ntmps254];simp) rfl rfl (by simp[LO.lt,an,LV.lt,aq]) (by simp) ?_⟩;intro B hA hmd;refine .seq (.region rfl (aa (h:=.n0 (.seq (.region rfl (ae (h:=ae (h:=ai (es:=[_,_,_]) (fun _=>zT s hs h8) (h:=aa (h:=.n0 ?_))))))))));exact LGo.ret (ax Tryz.results254 hA hmd)
theorem v7(m:Nat)(b:List UInt8)(hm:m≤50000)(hb:b.length≤100000):PC Tryz.prog 225 [.t (List.replicate m 57),.t b] (.b (decide (gR (ef (List.replicate m 57)) b<0))):=by
 refine⟨LC.of_go Tryz.func225 (c:=_) rfl (by kernel_rfl) (by rw[Tryz.ntmps225];simp) rfl rfl (by simp[LO.lt,an,LV.lt,aq]) (by simp) ?_⟩;intro B hA hmd;rw[zP];refine .seq (.region rfl (aa (h:=.n0 (.seq (.region rfl (ae (h:=ai (es:=[_,_]) (fun _=>qH (List.replicate m 57) (by rw[List.length_replicate];omega) (fun c hc=>by rw[List.eq_of_mem_replicate hc];decide)) (h:=?_))))))));rw[List.length_replicate,qG m m (Nat.le_refl _)];refine aa (h:=.n0 (.seq (.region rfl (ae (h:=bC Tryz.runUnderlying9 (h:=?_))))));rw[List.length_replicate];refine dD (h:=ae (h:=dD (h:=?_)));rw[show(m:Int)-1- -1=((m:Nat):Int)from by omega];refine ai (es:=[_,_]) (fun _=>uS m (by omega)) (h:=aa (h:=.n0 (.seq (.seq (.region rfl (ae (h:=ah (au _ _ _ _ _ _) (h:=.n0 ?_))))))));refine aj (ht:=fun hc=>?_) (hf:=fun hc=>by simp at hc);refine .seq (.region rfl (ae (h:=ah (aN _ _ _ [49] (List.replicate m 48) (by simp;omega)) (h:=ae (h:=ai (es:=[_,_]) (fun _=>s5 (49::List.replicate m 48) b (by simp;omega) (by omega)) (h:=ah (au _ _ _ _ _ _) (h:=aa (h:=.n0 ?_))))))));exact LGo.ret (ax Tryz.results225 hA hmd)
theorem vZ(q:List UInt8)(c:UInt8)(m:Nat)(b:List UInt8)(hd:(q++[c]++List.replicate m 57).all cd=true)(h9:¬c=57)(hm:q.length+m≤50000)(hb:b.length≤100000):PC Tryz.prog 225 [.t (q++[c]++List.replicate m 57),.t b] (.b (decide (gR (ef (q++[c]++List.replicate m 57)) b<0))):=by
 refine⟨LC.of_go Tryz.func225 (c:=_) rfl (by kernel_rfl) (by rw[Tryz.ntmps225];simp) rfl rfl (by simp[LO.lt,an,LV.lt,aq]) (by simp) ?_⟩;intro B hA hmd;rw[zO q c m h9];have hdc:cd c=true:=by rw[List.all_eq_true]at hd;exact hd c (by simp)
 obtain⟨hs1,_,hs3,hs4⟩:=mi hdc h9;have hll:(q++[c]++List.replicate m 57).length=q.length+1+m:=by simp;omega
 refine .seq (.region rfl (aa (h:=.n0 (.seq (.region rfl (ae (h:=ai (es:=[_,_]) (fun _=>qH (q++[c]++List.replicate m 57) (by omega) (fun x hx=>E4 (by rw[List.all_eq_true]at hd;exact hd x hx))) (h:=?_))))))));rw[hll,qF q c h9 m m (Nat.le_refl _)];refine aa (h:=.n0 (.seq (.region rfl (ae (h:=bC Tryz.runUnderlying9 (h:=?_))))));rw[hll];refine dD (h:=ae (h:=dD (h:=?_)));rw[show((q.length+1+m:Nat):Int)-1-(q.length:Nat)=((m:Nat):Int)from by omega];refine ai (es:=[_,_]) (fun _=>uS m (by omega)) (h:=aa (h:=.n0 (.seq (.seq (.region rfl (ae (h:=ah (au _ _ _ _ _ _) (h:=.n0 ?_))))))));refine aj (ht:=fun hc=>by simp at hc;omega) (hf:=fun hc=>?_);refine .skip (.seq (.region rfl (ae (h:=ae (h:=lF Tryz.runUnderlying9 (ha:=fun _=>by simp;omega) (h:=?_))))));rw[Int.toNat_natCast,List.append_assoc,List.take_left];refine ae (h:=ae (h:=bu Tryz.runUnderlying9 (c:=c) (hj:=fun hg=>⟨by omega,by rw[Int.toNat_natCast];simp⟩) (h:=aG (h:=?_))));rw[show(c.toNat:Int)+1=(((c+1).toNat:Nat):Int)from by rw[hs1];omega];refine bE dm (aL [c+1]) (xs:=[_]) (es:=[_]) (hcs:=CellsOfs.cons (CellsOf.one rfl) CellsOfs.nil) (h:=cn Tryz.underlying52 Tryz.underlying5 Tryz.underlying9 (h:=ah (aN _ _ _ q [c+1] (by simp;omega)) (h:=ae (h:=ah (aN _ _ _ (q++[c+1]) (List.replicate m 48) (by simp;omega)) (h:=ae (h:=ai (es:=[_,_]) (fun _=>s5 (q++[c+1]++List.replicate m 48) b (by simp;omega) (by omega)) (h:=ah (au _ _ _ _ _ _) (h:=aa (h:=Reg.nil ⟨fun _=>⟨aQ,by rfl,by rfl⟩,?_⟩)))))))));exact LGo.ret (ax Tryz.results225 hA hmd)
theorem z7(a b:List UInt8)(hd:a.all cd=true)(ha:a.length≤50000)(hb:b.length≤100000):PC Tryz.prog 225 [.t a,.t b] (.b (decide (gR (ef a) b<0))):=by
 rcases xn a with⟨m,rfl⟩|⟨q,c,m,rfl,h9⟩
 exact v7 m b (by simpa using ha) hb;exact vZ q c m b hd h9 (by simp at ha;omega) hb
section
open Go.RowKit
theorem uI(B:List ByteArray):bn (B.map (·.data.toList))=B.map fun b=>[SV.val (.string b)]:=by
 unfold bn;rw[List.map_map];refine List.map_congr_left fun b _=>?_;simp
theorem qI{w:World}{T:Nat}{B:List ByteArray}{cx:Cx}(hl:∀b,0<cx.pr b→b<w.heap.size)(hB:B.length≤maxLen):
 ∃pr',(∀b,b<w.heap.size→pr' b=cx.pr b)∧(∀b,0<pr' b→b<(w.alloc (.cells (B.map Value.string).toArray T)).heap.size)∧
  V ⟨pr',cx.A,cx.loc,cx.inn⟩ (w.alloc (.cells (B.map Value.string).toArray T)) (.sv (.sl 1 (B.map fun b=>[SV.val (.string b)]))) (.slice (some ⟨w.heap.size,0,none⟩) B.length B.length):=by
 refine⟨fun b=>if b=w.heap.size then B.length else cx.pr b,fun b hlt=>by simp only;rw[if_neg (by omega)],fun b hp=>?_,?_⟩;have hs:(w.alloc (.cells (B.map Value.string).toArray T)).heap.size=w.heap.size+1:=by simp
 rw[hs];simp only at hp;split at hp;omega;have:=hl b hp;omega;simp only[V,VS];refine .inr ⟨w.heap.size,0,B.length,by rw[List.length_map],by rw[List.length_map];exact Nat.le_refl _,hB,by rw[List.length_map];simp,?_⟩;have gen:∀(m:List ByteArray) (k:Nat),(∀i (h:i<m.length),(w.alloc (.cells (B.map Value.string).toArray T)).cell? ⟨w.heap.size,k+i,none⟩=some (.string m[i]))→VSR (fun b=>if b=w.heap.size then B.length else cx.pr b) (w.alloc (.cells (B.map Value.string).toArray T)) w.heap.size k 1 (m.map fun b=>[SV.val (.string b)]):=by
  intro m;induction m with
  |nil=>intro k _;simp[VSR]
  |cons a m ih=>
   intro k hk;simp only[List.map_cons,VSR,VSC];refine⟨rfl,⟨⟨_,hk 0 (by simp),rfl,by simp[VS]⟩,trivial⟩,ih (k+1) fun i hi=>?_⟩;have:=hk (i+1) (by simp;omega);rw[show k+(i+1)=k+1+i from by omega]at this;rw[this];rfl
 refine gen B 0 fun i hi=>?_;have h:(w.alloc (.cells (B.map Value.string).toArray T)).heap[w.heap.size]?=some (.cells (B.map Value.string).toArray T):=by
  show(w.heap.push _)[w.heap.size]?=_;simp
 rw[Nat.zero_add];simp only[World.cell?,h];simp[hi]
theorem vY(c:UInt8)(s:List UInt8)(hs:s.length≤2000000):PC Tryz.prog 152 [.t s,.t [c],.i 0,.i (-1)] (.sv (.sl 1 (bn (Lib.split s [c])))):=
 eN (Entr.of Tryz.func152 rfl (by kernel_rfl)) (by simp[an,LV.lt]) fun cx w vs hl ham hv=>by
  obtain⟨v1,v2,v3,v4,rfl,h1,h2,h3,h4⟩:∃v1 v2 v3 v4,vs=[v1,v2,v3,v4]∧V cx w (.t s) v1∧V cx w (.t [c]) v2∧V cx w (.i 0) v3∧V cx w (.i (-1)) v4:=by
   simp only[Vs]at hv;obtain⟨v1,r1,rfl,h1,v2,r2,rfl,h2,v3,r3,rfl,h3,v4,r4,rfl,h4,rfl⟩:=hv;exact⟨_,_,_,_,rfl,h1,h2,h3,h4⟩
  rw[h1.val,h2.val,h3.val,h4.val];have hz:(⟨s.toArray⟩:ByteArray).size=s.length:=by simp[ByteArray.size]
  have hle:=Lib.countB_le ⟨#[c]⟩ (Nat.le_refl _) s.length ⟨s.toArray⟩ (Nat.le_of_eq hz);have hlen:=Lib.splitB_all ⟨#[c]⟩ (Nat.le_refl _) 0 _ ⟨s.toArray⟩ rfl;have cl:=Any.strings_genSplit_core mE (by kernel_rfl) ⟨s.toArray⟩ ⟨#[c]⟩ 0 (-1) (Lib.countB ⟨s.toArray⟩ ⟨#[c]⟩+1) w (by rw[hz];omega) (Nat.le_refl _) (Nat.zero_le _)
   (fun x cc hx=>(Any.strings_Index_one ji x c _).mono fun e w' ⟨he,hw⟩=>⟨by rw[he,←Lib.index_one],hw⟩)
   ((Any.strings_Count_one jj ⟨s.toArray⟩ c w).mono fun e w' ⟨he,hw⟩=>⟨by
    rw[he];show _=Ending.returned (Value.int .i64 ((Lib.count (ByteArray.mk s.toArray).data.toList [c]:Nat):Int));rw[Lib.count_one];rfl,hw⟩)
   (by decide) (by decide) (by rw[if_pos (by decide),hz];omega)
  rw[Nat.add_sub_cancel,hlen]at cl;have e2:Lib.cellsOf (Lib.splitB ⟨#[c]⟩ 0 (Lib.countB ⟨s.toArray⟩ ⟨#[c]⟩) ⟨s.toArray⟩) (Lib.countB ⟨s.toArray⟩ ⟨#[c]⟩+1)=((Lib.splitB ⟨#[c]⟩ 0 (Lib.countB ⟨s.toArray⟩ ⟨#[c]⟩) ⟨s.toArray⟩).map Value.string).toArray:=by
   conv=>lhs;arg 2;rw[←hlen]
   exact Lib.cellsOf_full _
  rw[e2]at cl;refine cl.mono ?_;rintro e w' ⟨rfl,rfl⟩;have e3:Lib.split s [c]=(Lib.splitB ⟨#[c]⟩ 0 (Lib.countB ⟨s.toArray⟩ ⟨#[c]⟩) ⟨s.toArray⟩).map (·.data.toList):=(Lib.splitB_data ⟨#[c]⟩ 0 _ ⟨s.toArray⟩).symm;rw[e3,uI];obtain⟨pr',k1,k2,k3⟩:=qI (w:=w) (T:=9) (B:=Lib.splitB ⟨#[c]⟩ 0 (Lib.countB ⟨s.toArray⟩ ⟨#[c]⟩) ⟨s.toArray⟩) (cx:=cx) hl (by rw[hlen];unfold maxLen;omega);rw[hlen]at k3;exact⟨_,pr',rfl,(Below.refl _ w).alloc (Nat.le_refl _) _,k1,k2,k3⟩
end
def y5(c:UInt8):List UInt8→List UInt8→List (List UInt8)
 |cur,[]=>[cur]
 |cur,x::r=>if x=c then cur::y5 c [] r else y5 c (cur++[x]) r
theorem tg(c:UInt8):∀(a cur r:List UInt8),c∉a→y5 c cur (a++r)=y5 c (cur++a) r
 |[],cur,r,_=>by rw[List.nil_append,List.append_nil]
 |x::a,cur,r,h=>by
  have h1:¬x=c:=fun e=>h (by rw[e];simp);rw[List.cons_append,y5,if_neg h1,tg c a (cur++[x]) r (fun e=>h (by simp[e]))];simp
theorem kj{c:UInt8}{s:List UInt8}(h:c∉s):Lib.split s [c]=[s]:=by
 unfold Lib.split;rw[Lib.count_one,List.count_eq_zero.2 h];rfl
theorem iX{c:UInt8}{a b:List UInt8}(h:c∉a)(hi:Lib.indexByte (a++c::b) c=(a.length:Nat)):Lib.split (a++c::b) [c]=a::Lib.split b [c]:=by
 unfold Lib.split;rw[Lib.count_one,Lib.count_one,List.count_append,List.count_eq_zero.2 h,List.count_cons_self,Nat.zero_add,Lib.splitK,Lib.index_one,hi,if_neg (by rw[beq_iff_eq];omega),Int.toNat_natCast];have e:(a++c::b).drop (a.length+[c].length)=b:=by
  rw[show a.length+[c].length=a.length+1 from rfl,←List.drop_drop,List.drop_left];rfl
 rw[e,Nat.add_zero,List.take_left]
theorem na(c:UInt8):∀(n:Nat) (s:List UInt8),s.length≤n→y5 c [] s=Lib.split s [c]
 |n,s,hn=>by
  rcases dX c s with⟨_,h2⟩|⟨a,b,rfl,h2,h3⟩
  rw[kj h2];have:=tg c s [] [] h2;rw[List.append_nil,List.nil_append]at this;rw[this];rfl
  match n with
  |0=>simp at hn
  |n+1=>
   rw[iX h2 h3,tg c a [] _ h2,y5,if_pos rfl,na c n b (by simp at hn;omega),List.nil_append]
theorem tf(c:UInt8):∀(r cur:List UInt8),(y5 c cur r).length≤r.length+1
 |[],cur=>by simp[y5]
 |x::r,cur=>by
  rw[y5];split;have:=tf c r [];simp;omega;have:=tf c r (cur++[x]);simp;omega
theorem zr(c:UInt8)(s:List UInt8):(Lib.split s [c]).length≤s.length+1:=by rw[←na c _ s (Nat.le_refl _)];exact tf c s []
theorem BV(c:UInt8)(s:List UInt8)(hs:s.length≤2000000):PC Tryz.prog 101 [.t s,.t [c]] (.sv (.sl 1 (bn (Lib.split s [c])))):=by
 refine⟨LC.of_go Tryz.func101 (c:=_) rfl (by kernel_rfl) (by rw[Tryz.ntmps101];simp) rfl rfl (by simp[LO.lt,an,LV.lt,aq]) (by simp) ?_⟩;intro B hA hmd;refine .seq (.region rfl (aa (h:=.n0 (.seq (.region rfl (ae (h:=ae (h:=ai (es:=[_,_,_,_]) (fun _=>vY c s hs) (h:=aa (h:=.n0 ?_))))))))));exact LGo.ret (ax Tryz.results101 hA hmd)
theorem EG(l:List Int)(hl:l.length≤100000)(h64:∀n∈l,-9223372036854775808≤n∧n≤9223372036854775807):PC Tryz.prog 95 [.sv (.sl 1 (ic .i64 l))] (.tup [.t (cU l).1,.i (cU l).2]):=by
 refine⟨LC.of_go Tryz.func95 (c:=_) rfl (by kernel_rfl) (by rw[Tryz.ntmps95];simp) rfl rfl (by simp[LO.lt,an,LV.lt,aq]) (by simp) ?_⟩;intro B hA hmd;obtain⟨g,e0⟩:∃g,cU l=g:=⟨_,rfl⟩;have e1:=e0;unfold cU at e1;rw[e0];refine .seq (.region rfl (aa (h:=aa (h:=.n0 (.seq (.seq (.region rfl (ae (h:=aF iE (h:=?_))))))))));rw[bp];refine ah (aJ _ _ _ _ _ _) (h:=.n0 ?_);refine ao (ht:=fun hc=>?_) (hf:=fun hc=>?_);rw[if_pos hc]at e1;rw[←e1];refine .seq (.region rfl (aa (h:=aa (h:=.n0 ?_))));exact LGo.ret (aI Tryz.results95 hA hmd);rw[if_neg hc]at e1;refine .skip (.seq (.seq (.region rfl (aa (h:=.n0 (.block (.loop ?_)))))));refine ay (σ:=Nat) (fun x=>x≤l.length∧lN l x=false) (fun x=>[(4,(true,.i (x:Nat)))]) (fun x=>[]) (fun x=>l.length-x) (0) [(0,_)] ⟨Nat.zero_le _,rfl⟩ (by repeat (first|exact trivial|refine⟨rfl,?_⟩)) (by repeat (first|exact trivial|refine⟨rfl,?_⟩)) (by repeat (first|exact trivial|refine⟨rfl,?_⟩)) ?_;rintro k ⟨hk,hok⟩ ih;refine .seq (.seq (.region rfl (ae (h:=ae (h:=aF iE (h:=?_))))));rw[bp];refine ah (au _ _ _ _ _ _) (h:=.n0 ?_);refine ao (ht:=fun hc2=>?_) (hf:=fun hc2=>?_);have hlt:k<l.length:=by omega
 have ho:=rY l k;rw[hok,Bool.false_or]at ho;refine .skip (.seq (.block (.seq (.region rfl (ae (h:=ae (h:=aw jH (e:=[.val (.int .i64 (l.getD (k) 0))]) (hj:=fun hg=>⟨by omega,by rw[Int.toNat_natCast];exact ua (by omega)⟩) (h:=aM O3 (h:=ah (au _ _ _ _ _ _) (h:=ae (h:=ae (h:=ae (h:=aw jH (e:=[.val (.int .i64 (l.getD (k) 0))]) (hj:=fun hg=>⟨by omega,by rw[Int.toNat_natCast];exact ua (by omega)⟩) (h:=?_))))))))))))));refine aM O3 (h:=ah (aJ _ _ _ _ _ _) (h:=aX (h:=.n0 ?_)));refine aj (ht:=fun hc3=>?_) (hf:=fun hc3=>?_);rw[if_pos (uZ hlt hc3)]at e1;rw[←e1];refine .seq (.region rfl (aa (h:=aa (h:=.n0 ?_))));exact LGo.ret (aI Tryz.results95 hA hmd);rw[hc3]at ho;refine .skip (.inBlock (.region rfl (ae (h:=aG (h:=aa (h:=.n0 (.inLoop ?_)))))));exact LGo.next _ (fun o h=>by have:=(hA o).1 h;omega) (by omega) (ih (k+1) ⟨hlt,ho⟩ (by omega)) (by repeat (first|exact trivial|refine⟨rfl,?_⟩)) (by repeat (first|exact trivial|refine⟨rfl,?_⟩));obtain rfl:k=l.length:=by omega
 rw[if_neg (by rw[hok];simp)]at e1;have hrng:=o4 hok;clear hok;refine .exit rfl (.seq (.seq (.region rfl (aa (h:=.n0 (.block (.loop ?_)))))));refine ay (σ:=Nat) (fun x=>1≤x∧(x≤l.length∨l.length=0)∧eh l x=false) (fun x=>[(5,(true,.i (x:Nat)))]) (fun x=>[]) (fun x=>l.length-x) (1) [(0,_)] ⟨Nat.le_refl _,by omega,by simp[eh]⟩ (by repeat (first|exact trivial|refine⟨rfl,?_⟩)) (by repeat (first|exact trivial|refine⟨rfl,?_⟩)) (by repeat (first|exact trivial|refine⟨rfl,?_⟩)) ?_;rintro k ⟨h1k,hkl,hdk⟩ ih2;refine .seq (.seq (.region rfl (ae (h:=ae (h:=aF iE (h:=?_))))));rw[bp];refine ah (au _ _ _ _ _ _) (h:=.n0 ?_);refine ao (ht:=fun hc4=>?_) (hf:=fun hc4=>?_);have hlt:k<l.length:=by omega
 have hde:=qQ l k;rw[hdk,Bool.false_or]at hde;refine .skip (.seq (.block (.seq (.region rfl (ae (h:=ae (h:=aw jH (e:=[.val (.int .i64 (l.getD (k) 0))]) (hj:=fun hg=>⟨by omega,by rw[Int.toNat_natCast];exact ua (by omega)⟩) (h:=aM O3 (h:=ae (h:=ae (h:=dD (h:=aw jH (e:=[.val (.int .i64 (l.getD (k-1) 0))]) (hj:=fun hg=>⟨by omega,by rw[show Int.toNat ((k:Int)-1)=k-1 from by omega];exact ua (by omega)⟩) (h:=aM O3 (h:=?_))))))))))))));refine ah (cb _ _ _ _ _ _) (h:=Reg.nil ⟨fun _=>⟨aQ,by rfl,by rfl⟩,?_⟩);refine ao (ht:=fun hc5=>?_) (hf:=fun hc5=>?_);have hdl:eh l l.length=true:=by
  unfold eh;rw[List.any_eq_true];exact⟨k,List.mem_range.2 hlt,by simp only[Bool.and_eq_true,decide_eq_true_eq];omega⟩
 rw[if_pos hdl]at e1;rw[←e1];refine .seq (.region rfl (aa (h:=aa (h:=.n0 ?_))));exact LGo.ret (aI Tryz.results95 hA hmd);have hde2:eh l (k+1)=false:=by rw[hde];simp only[Bool.and_eq_false_iff,decide_eq_false_iff_not];omega
 refine .skip (.inBlock (.region rfl (ae (h:=aG (h:=aa (h:=.n0 (.inLoop ?_)))))));exact LGo.next _ (fun o h=>by have:=(hA o).1 h;omega) (by omega) (ih2 (k+1) ⟨by omega,by omega,hde2⟩ (by omega)) (by repeat (first|exact trivial|refine⟨rfl,?_⟩)) (by repeat (first|exact trivial|refine⟨rfl,?_⟩));have hdl:eh l l.length=false:=by
  rcases hkl with h|h
  rw[←show k=l.length from by omega];exact hdk;rw[h];rfl
 rw[if_neg (by rw[hdl];simp)]at e1;clear hdk hdl;refine .exit rfl (.seq (.seq (.region rfl (ae (h:=aF iE (h:=?_))))));rw[bp];refine ah (av _ _ _ _ _ _) (h:=.n0 ?_);refine ao (ht:=fun hc6=>?_) (hf:=fun hc6=>?_);rw[if_pos (List.eq_nil_of_length_eq_zero (by omega))]at e1;rw[←e1];refine .seq (.region rfl (aa (h:=aa (h:=.n0 ?_))));exact LGo.ret (aI Tryz.results95 hA hmd);rw[if_neg (by intro h;rw[h]at hc6;simp at hc6)]at e1;rw[←e1];refine .skip (.seq (.region rfl (aa (h:=.n0 (.seq (.seq (.region rfl (aa (h:=.n0 (.block (.loop ?_)))))))))));refine ay (σ:=Nat×List UInt8×Nat) (fun x=>x.1≤l.length∧l.length-x.1<x.2.2∧x.2.1.length≤24*x.1∧(0<x.1→x.2.1≠[])∧(x.1=0→x.2.1=[])∧da x.2.2 (l.drop x.1) x.2.1=da (l.length+1) l []) (fun x=>[(7,(true,.i (x.1:Nat))),(6,(true,.t x.2.1))]) (fun x=>[]) (fun x=>l.length-x.1) (0,[],l.length+1) [(0,_)] ⟨Nat.zero_le _,by dsimp only;omega,Nat.zero_le _,fun h=>absurd h (by dsimp only;omega),fun _=>rfl,rfl⟩ (by repeat (first|exact trivial|refine⟨rfl,?_⟩)) (by repeat (first|exact trivial|refine⟨rfl,?_⟩)) (by repeat (first|exact trivial|refine⟨rfl,?_⟩)) ?_;rintro⟨i,acc,f⟩ ⟨hi,hf,hal,hne,hz,hq⟩ ih3;dsimp only at*;refine .seq (.seq (.region rfl (ae (h:=ae (h:=aF iE (h:=?_))))));rw[bp];refine ah (au _ _ _ _ _ _) (h:=.n0 ?_);refine ao (ht:=fun hc7=>?_) (hf:=fun hc7=>?_);have hlt:i<l.length:=by omega
 obtain⟨f,rfl⟩:∃g,f=g+1:=⟨f-1,by omega⟩;have hd:l.drop i=l.getD i 0::l.drop (i+1):=by rw[List.drop_eq_getElem_cons hlt,List.getD_eq_getElem?_getD,List.getElem?_eq_getElem hlt];rfl
 rw[hd,da]at hq;have hra:=hrng i;have hstp:=fun d h=>jY (l.getD i 0) (l.drop (i+1)) d h;have hat:=fun d h=>nc (l.getD i 0) (l.drop (i+1)) d h;have hrl:=kk (l.getD i 0) (l.drop (i+1));rw[←hd]at hstp hat;simp only[FI,List.length_drop]at hstp hat hrl;refine .skip (.seq (.block (.seq (.region rfl (ae (h:=aa (h:=.n0 (.seq (.block (.loop ?_))))))))));refine ay (σ:=Nat) (fun x=>x≤bT (l.getD i 0) (l.drop (i+1))) (fun x=>[(8,(true,.i ((i+x:Nat):Nat)))]) (fun x=>[]) (fun x=>l.length-(i+x)) (0) [(0,_),(6,_),(7,_)] (Nat.zero_le _) (by repeat (first|exact trivial|refine⟨rfl,?_⟩)) (by repeat (first|exact trivial|refine⟨rfl,?_⟩)) (by repeat (first|exact trivial|refine⟨rfl,?_⟩)) ?_;rintro d hdr ih4;have hb1:=hrng (i+d);have hb2:=hrng (i+d+1);have hst:=hstp d hdr;rw[show i+(d+1)=i+d+1 from by omega]at hst;refine .seq (.seq (.region rfl (ae (h:=aG (h:=ae (h:=aF iE (h:=?_)))))));rw[bp];refine ah (au _ _ _ _ _ _) (h:=ae (h:=ae (h:=ae (h:=aG (h:=aw jH (e:=[.val (.int .i64 (l.getD (i+d+1) 0))]) (hj:=fun hg=>⟨by omega,by rw[show Int.toNat (((i+d:Nat):Int)+1)=i+d+1 from by omega];exact ua (by simp at hg;omega)⟩) (h:=aM O3 (h:=ae (h:=ae (h:=aw jH (e:=[.val (.int .i64 (l.getD (i+d) 0))]) (hj:=fun hg=>⟨by omega,by rw[Int.toNat_natCast];exact ua (by omega)⟩) (h:=aM O3 (h:=aG (h:=ah (av _ _ _ _ _ _) (h:=aT (h:=?_))))))))))))));refine Reg.nil ⟨fun _=>⟨aQ,by rfl,by rfl⟩,?_⟩;refine aj (ht:=fun hc8=>?_) (hf:=fun hc8=>?_);have hd1:d+1≤bT (l.getD i 0) (l.drop (i+1)):=by rw[hst];simp only[Bool.or_eq_true,Bool.and_eq_true,decide_eq_true_eq,Bool.or_eq_false_iff,Bool.and_eq_false_iff,decide_eq_false_iff_not,Bool.not_eq_true',Bool.not_eq_false',Bool.not_eq_true,Bool.not_eq_false,Bool.false_eq_true,Bool.true_eq_false,iff_true,true_iff,iff_false,false_iff]at hc8;omega
 refine .skip (.block (.region rfl (ae (h:=aG (h:=aa (h:=.n0 (.inBlock (.inLoop ?_))))))));rw[show((i+d:Nat):Int)+1=((i+(d+1):Nat):Int)from by omega];exact LGo.next _ (fun o h=>by have:=(hA o).1 h;omega) (by omega) (ih4 (d+1) hd1 (by omega)) (by repeat (first|exact trivial|refine⟨rfl,?_⟩)) trivial;have hde:d=bT (l.getD i 0) (l.drop (i+1)):=by
  by_cases h:d+1≤bT (l.getD i 0) (l.drop (i+1));have h2:=hst.1 h;simp only[Bool.or_eq_true,Bool.and_eq_true,decide_eq_true_eq,Bool.or_eq_false_iff,Bool.and_eq_false_iff,decide_eq_false_iff_not,Bool.not_eq_true',Bool.not_eq_false',Bool.not_eq_true,Bool.not_eq_false,Bool.false_eq_true,Bool.true_eq_false,iff_true,true_iff,iff_false,false_iff]at hc8;omega;omega
 rw[←hde]at hq hrl;rw[List.drop_drop]at hq;have had:=hat d hdr;have hi1:=l6 hra.1 hra.2;have hi2:=l6 (n:=l.getD i 0+d) (by omega) (by omega);have hin:=tq (l.getD i 0);clear hst hstp hat;refine .exit rfl (.seq (.seq (.region rfl (ae (h:=ah (cj _ _ _ _ _) (h:=.n0 ?_))))));refine l8 (σ:=List UInt8) (fun x=>x=acc++gH acc∧x.length≤acc.length+1) (fun x=>[(6,(true,.t x))]) (fun x=>[]) 0 [(0,_),(7,_),(8,_),(62,_),(63,_),(64,_),(65,_),(66,_),(67,_),(68,_),(69,_),(70,_),(71,_),(72,_)] (by repeat (first|exact trivial|refine⟨rfl,?_⟩)) ?_ (fun hcut=>?_);rintro o ⟨ho,hol⟩;refine .seq (.region rfl (ae (h:=ae (h:=ae (h:=aw jH (e:=[.val (.int .i64 (l.getD (i) 0))]) (hj:=fun hg=>⟨by omega,by rw[Int.toNat_natCast];exact ua (by omega)⟩) (h:=aM O3 (h:=ai (es:=[_]) (fun _=>dx (l.getD i 0) (by omega) (by omega)) (h:=ah (aN _ _ _ (o) (Lib.itoa (l.getD i 0)) (by first|omega|(simp only[List.length_append,List.length_cons,List.length_nil]at*;omega))) (h:=aa (h:=.n0 (.seq (.seq (.region rfl ?_)))))))))))));refine ae (h:=ae (h:=ah (aJ _ _ _ _ _ _) (h:=.n0 ?_)));refine ao (ht:=fun hc10=>?_) (hf:=fun hc10=>?_);have hpos:0<d:=by omega
 rw[←ho]at hq;refine .region rfl (ae (h:=ah (aN _ _ _ (o++Lib.itoa (l.getD i 0)) ([45]) (by first|omega|(simp only[List.length_append,List.length_cons,List.length_nil]at*;omega))) (h:=ae (h:=ae (h:=aw jH (e:=[.val (.int .i64 (l.getD (i+d) 0))]) (hj:=fun hg=>⟨by omega,by rw[Int.toNat_natCast];exact ua (by omega)⟩) (h:=?_))))));rw[had];refine aM O3 (h:=ai (es:=[_]) (fun _=>dx (l.getD i 0+d) (by omega) (by omega)) (h:=ah (aN _ _ _ (o++Lib.itoa (l.getD i 0)++[45]) (Lib.itoa (l.getD i 0+d)) (by first|omega|(simp only[List.length_append,List.length_cons,List.length_nil]at*;omega))) (h:=aa (h:=.n0 (.region rfl (ae (h:=aa (h:=.n0 (.inBlock (.region rfl (ae (h:=aG (h:=aa (h:=?_))))))))))))));refine .n0 (.inLoop ?_);rw[show((i+d:Nat):Int)+1=((i+d+1:Nat):Int)from by omega];exact LGo.next _ (fun o h=>by have:=(hA o).1 h;omega) (by omega) (ih3 (i+d+1,o++Lib.itoa (l.getD i 0)++[45]++Lib.itoa (l.getD i 0+d),f) ⟨by dsimp only;omega,by dsimp only;omega,by dsimp only;simp only[List.length_append,List.length_cons,List.length_nil]at*;omega,fun _=>by dsimp only;simp,fun h=>absurd h (by dsimp only;omega),by dsimp only;rw[←hq,show i+d+1=i+1+d from by omega,ho];simp only[dJ,hpos];simp⟩ (by dsimp only;omega)) (by repeat (first|exact trivial|refine⟨rfl,?_⟩)) trivial;have hpos:¬0<d:=by omega
 rw[←ho]at hq;refine .skip (.region rfl (ae (h:=aa (h:=.n0 (.inBlock (.region rfl (ae (h:=aG (h:=aa (h:=.n0 (.inLoop ?_)))))))))));rw[show((i+d:Nat):Int)+1=((i+d+1:Nat):Int)from by omega];exact LGo.next _ (fun o h=>by have:=(hA o).1 h;omega) (by omega) (ih3 (i+d+1,o++Lib.itoa (l.getD i 0),f) ⟨by dsimp only;omega,by dsimp only;omega,by dsimp only;simp only[List.length_append,List.length_cons,List.length_nil]at*;omega,fun _=>fun h=>hin (List.append_eq_nil_iff.1 h).2,fun h=>absurd h (by dsimp only;omega),by dsimp only;rw[←hq,show i+d+1=i+1+d from by omega,ho];simp only[dJ,hpos];simp⟩ (by dsimp only;omega)) (by repeat (first|exact trivial|refine⟨rfl,?_⟩)) trivial;refine aj (ht:=fun hc9=>?_) (hf:=fun hc9=>?_);refine .region rfl (ae (h:=ah (aN _ _ _ (acc) ([44]) (by first|omega|(simp only[List.length_append,List.length_cons,List.length_nil]at*;omega))) (h:=aa (h:=.n0 ?_))));exact LGo.next _ (fun o h=>by have:=(hA o).1 h;omega) (by omega) (hcut (acc++[44]) ⟨by unfold gH;rw[if_neg (by simpa using hc9)],by simp⟩) (by repeat (first|exact trivial|refine⟨rfl,?_⟩)) (by repeat (first|exact trivial|refine⟨rfl,?_⟩));refine .skip ?_;exact LGo.next _ (fun o h=>by have:=(hA o).1 h;omega) (by omega) (hcut acc ⟨by unfold gH;rw[if_pos (by simpa using hc9),List.append_nil],by omega⟩) (by repeat (first|exact trivial|refine⟨rfl,?_⟩)) (by repeat (first|exact trivial|refine⟨rfl,?_⟩));rw[List.drop_of_length_le (by omega)]at hq;obtain⟨f,rfl⟩:∃g,f=g+1:=⟨f-1,by omega⟩;rw[←hq];refine .exit rfl (.seq (.region rfl (ae (h:=aa (h:=aa (h:=.n0 ?_))))));exact LGo.ret (aI Tryz.results95 hA hmd)
theorem qP(n:Int)(h:c8 n):PC Tryz.prog 96 [.i n] (.t (Lib.itoa n)):=by
 refine⟨LC.of_go Tryz.func96 (c:=_) rfl (by kernel_rfl) (by rw[Tryz.ntmps96];simp) rfl rfl (by simp[LO.lt,an,LV.lt,aq]) (by simp) ?_⟩;intro B hA hmd;unfold c8 at h;refine .seq (.region rfl (aa (h:=.n0 (.seq (.region rfl (ae (h:=ai (es:=[_]) (fun _=>dx n (by omega) (by omega)) (h:=aa (h:=.n0 ?_)))))))));exact LGo.ret (ax Tryz.results96 hA hmd)
theorem zG(l:List GtG)(hs:DB ⟨l,[]⟩)(hc0:dp ⟨l,[]⟩=0)(hr:∀g∈l,c8 g.fr∧c8 g.to∧(∀n∈g.secs,c8 n)∧(cU g.secs).1.length≤1000)(hg8:l.length≤8):PC Tryz.prog 39 [.agg ((GtS.mk l []).c.map LV.sv)] (.tup [.t (cz ⟨l,[]⟩),.i 0]):=by
 refine⟨LC.of_go Tryz.func39 (c:=_) rfl (by kernel_rfl) (by rw[Tryz.ntmps39];simp) rfl rfl (by simp[LO.lt,an,LV.lt,aq]) (by simp) ?_⟩;intro B hA hmd;obtain⟨⟨hg1,hg2⟩,he1,he2⟩:=id hs;obtain⟨F,hF⟩:∃F,cz ⟨l,[]⟩=F:=⟨_,rfl⟩;rw[hF];unfold cz at hF;dsimp only at hF;rw[List.map_nil,List.flatten_nil,List.append_nil]at hF;refine .seq (.region rfl (bg (h:=aa (h:=aa (h:=.n0 (.seq (.region rfl (aB nS (h:=ai (es:=[_]) (fun _=>An ⟨l,[]⟩ hs) (h:=?_))))))))));rw[hc0];refine aa (h:=.n0 (.seq (.seq (.region rfl (ae (h:=ah (aC _ _ _ _ _ _) (h:=.n0 ?_)))))));refine aj (ht:=fun hc=>by simp at hc) (hf:=fun hc=>?_);refine .skip (.seq (.region rfl (aa (h:=.n0 (.seq (.seq (.region rfl (aa (h:=.n0 (.block (.loop ?_)))))))))));refine ay (σ:=Nat×List UInt8) (fun x=>x.1≤l.length∧x.2.length≤2000*x.1∧x.2++((l.drop x.1).map kK).flatten=F) (fun x=>[(6,(true,.i (x.1:Nat))),(5,(true,.t x.2))]) (fun x=>[(0,.box 77 ((GtS.mk l []).c.map LV.sv))]) (fun x=>l.length-x.1) (0,[]) [(1,_)] ⟨Nat.zero_le _,Nat.zero_le _,hF⟩ (by repeat (first|exact trivial|refine⟨rfl,?_⟩)) (by repeat (first|exact trivial|refine⟨rfl,?_⟩)) (by repeat (first|exact trivial|refine⟨rfl,?_⟩)) ?_;rintro⟨k,acc⟩ ⟨hk,hal,hq⟩ ih;dsimp only at*;refine .seq (.seq (.region rfl (ae (h:=af dz (h:=ag gQ (h:=aF rm (h:=?_)))))));rw[List.length_map,show(GtS.mk l []).gates=l from rfl];refine ah (au _ _ _ _ _ _) (h:=.n0 ?_);refine ao (ht:=fun hc2=>?_) (hf:=fun hc2=>?_);have hlt:k<l.length:=by omega
 have hx:(l.map GtG.c)[((k:Nat):Int).toNat]?=some l[k].c:=by simp[hlt]
 have hd:l.drop k=l[k]::l.drop (k+1):=List.drop_eq_getElem_cons hlt;have hzr:=hr l[k] (List.getElem_mem hlt);have hzl:=hg2 l[k] (List.getElem_mem hlt);rw[hd,List.map_cons,List.flatten_cons]at hq;generalize l[k]=z at hx hq hzr hzl;clear hd;obtain⟨hz1,hz2,hz3,hz4⟩:=hzr;have hd1:=bt hz1;have hd2:=bt hz2;rw[show kK z=[103,97,116,101,32]++Lib.itoa z.fr++[32]++Lib.itoa z.to++[32]++(cU z.secs).1++[10]from rfl]at hq;refine .skip (.seq (.block (.seq (.region rfl (af dz (h:=ag gQ (h:=ae (h:=aw wy (hj:=fun hg=>⟨by omega,hx⟩) (h:=aR ri (h:=aD FT (h:=ar ri (h:=.n0 (.seq ?_)))))))))))));refine .region rfl (af ez (h:=ag gP (h:=ai (es:=[_]) (fun _=>EG z.secs hzl hz3) (h:=?_))));generalize(cU z.secs).1=ls at hq hz4⊢;refine ae (h:=ak (h:=ak (h:=aa (h:=aa (h:=.n0 (.region rfl (ae (h:=ah (aN _ _ _ (acc) ([103,97,116,101,32]) (by first|omega|(simp only[List.length_append,List.length_cons,List.length_nil]at*;omega))) (h:=af jx (h:=ag O2 (h:=ai (es:=[_]) (fun _=>qP z.fr hz1) (h:=?_))))))))))));generalize Lib.itoa z.fr=d1 at hq hd1⊢;refine ah (aN _ _ _ (acc++[103,97,116,101,32]) (d1) (by first|omega|(simp only[List.length_append,List.length_cons,List.length_nil]at*;omega))) (h:=ah (aN _ _ _ (acc++[103,97,116,101,32]++d1) ([32]) (by first|omega|(simp only[List.length_append,List.length_cons,List.length_nil]at*;omega))) (h:=af kP (h:=ag O2 (h:=ai (es:=[_]) (fun _=>qP z.to hz2) (h:=?_)))));generalize Lib.itoa z.to=d2 at hq hd2⊢;refine ah (aN _ _ _ (acc++[103,97,116,101,32]++d1++[32]) (d2) (by first|omega|(simp only[List.length_append,List.length_cons,List.length_nil]at*;omega))) (h:=ah (aN _ _ _ (acc++[103,97,116,101,32]++d1++[32]++d2) ([32]) (by first|omega|(simp only[List.length_append,List.length_cons,List.length_nil]at*;omega))) (h:=ae (h:=ah (aN _ _ _ (acc++[103,97,116,101,32]++d1++[32]++d2++[32]) (ls) (by first|omega|(simp only[List.length_append,List.length_cons,List.length_nil]at*;omega))) (h:=ah (aN _ _ _ (acc++[103,97,116,101,32]++d1++[32]++d2++[32]++ls) ([10]) (by first|omega|(simp only[List.length_append,List.length_cons,List.length_nil]at*;omega))) (h:=aa (h:=Reg.nil ⟨fun _=>⟨aQ,by rfl,by rfl⟩,.inBlock (.region rfl (ae (h:=aG (h:=aa (h:=.n0 (.inLoop ?_))))))⟩))))));exact LGo.next _ (fun o h=>by have:=(hA o).1 h;omega) (by omega) (ih (k+1,acc++[103,97,116,101,32]++d1++[32]++d2++[32]++ls++[10]) ⟨by dsimp only;omega,by dsimp only;simp only[List.length_append,List.length_cons,List.length_nil];omega,by dsimp only;rw[←hq];simp⟩ (by dsimp only;omega)) (by repeat (first|exact trivial|refine⟨rfl,?_⟩)) (by repeat (first|exact trivial|refine⟨rfl,?_⟩));rw[List.drop_eq_nil_of_le (show l.length≤k by omega),List.map_nil,List.flatten_nil,List.append_nil]at hq;subst hq;refine .exit rfl (.seq (.seq (.region rfl (aa (h:=.n0 (.block (.loop ?_)))))));refine ay (σ:=Nat) (fun x=>x=0) (fun x=>[(10,(true,.i (x:Nat))),(5,(true,.t acc))]) (fun x=>[(0,.box 77 ((GtS.mk l []).c.map LV.sv))]) (fun x=>0) (0) [(1,_)] rfl (by repeat (first|exact trivial|refine⟨rfl,?_⟩)) (by repeat (first|exact trivial|refine⟨rfl,?_⟩)) (by repeat (first|exact trivial|refine⟨rfl,?_⟩)) ?_;rintro m rfl ih2;refine .seq (.seq (.region rfl (ae (h:=af eK (h:=ag rH (h:=aF AD (h:=?_)))))));rw[List.length_map,show(GtS.mk l []).ents=[]from rfl];refine ah (au _ _ _ _ _ _) (h:=.n0 ?_);refine aj (ht:=fun hc3=>by simp at hc3) (hf:=fun hc3=>?_);refine .exit rfl (.seq (.region rfl (ae (h:=aa (h:=aa (h:=.n0 ?_))))));exact LGo.ret (aI Tryz.results39 hA hmd)
theorem mm(s:List UInt8):PC Tryz.prog 36 [.t s] (.agg ((fB s).c.map LV.sv)):=by
 refine⟨LC.of_go Tryz.func36 (c:=_) rfl (by kernel_rfl) (by rw[Tryz.ntmps36];simp) rfl rfl (by simp[LO.lt,an,LV.lt,aq]) (by simp) ?_⟩;intro B hA hmd;refine .seq (.region rfl (aD wA (h:=.n0 (.seq (.region rfl (ae (h:=br wI (is:=[0]) (xs:=[_]) (es:=[_]) (h:=ar iF (h:=.n0 ?_)))))))));exact LGo.ret (cM Tryz.results36 iF hA hmd)
theorem qu(s:List UInt8):PC Tryz.prog 37 [.t s] (.agg ((fQ s).c.map LV.sv)):=by
 refine⟨LC.of_go Tryz.func37 (c:=_) rfl (by kernel_rfl) (by rw[Tryz.ntmps37];simp) rfl rfl (by simp[LO.lt,an,LV.lt,aq]) (by simp) ?_⟩;intro B hA hmd;refine .seq (.region rfl (aD wA (h:=.n0 (.seq (.region rfl (ae (h:=br wI (is:=[0,1]) (xs:=[_,_]) (es:=[_,_]) (h:=ar iF (h:=.n0 ?_)))))))));exact LGo.ret (cM Tryz.results37 iF hA hmd)
theorem lA(n:Int)(h:c8 n):PC Tryz.prog 98 [.i n] (.agg ((fD n).c.map LV.sv)):=by
 refine⟨LC.of_go Tryz.func98 (c:=_) rfl (by kernel_rfl) (by rw[Tryz.ntmps98];simp) rfl rfl (by simp[LO.lt,an,LV.lt,aq]) (by simp) ?_⟩;intro B hA hmd;unfold c8 at h;refine .seq (.region rfl (aD wA (h:=.n0 (.seq (.region rfl (ae (h:=ai (es:=[_]) (fun _=>dx n (by omega) (by omega)) (h:=ai (es:=[_]) (fun _=>mm (Lib.itoa n)) (h:=ar iF (h:=.n0 ?_))))))))));exact LGo.ret (cM Tryz.results98 iF hA hmd)
theorem qN(n:Int)(h:c8 n):PC Tryz.prog 40 [.i n] (.t (Lib.itoa n)):=by
 refine⟨LC.of_go Tryz.func40 (c:=_) rfl (by kernel_rfl) (by rw[Tryz.ntmps40];simp) rfl rfl (by simp[LO.lt,an,LV.lt,aq]) (by simp) ?_⟩;intro B hA hmd;unfold c8 at h;refine .seq (.region rfl (aa (h:=.n0 (.seq (.region rfl (ae (h:=ai (es:=[_]) (fun _=>dx n (by omega) (by omega)) (h:=aa (h:=.n0 ?_)))))))));exact LGo.ret (ax Tryz.results40 hA hmd)
theorem De(c:SrC)(hc:c.ok):PC Tryz.prog 41 [.agg (c.c.map LV.sv)] (.sv (.sl 2 ((cq c).map Fd.c))):=by
 refine⟨LC.of_go Tryz.func41 (c:=_) rfl (by kernel_rfl) (by rw[Tryz.ntmps41];simp) rfl rfl (by simp[LO.lt,an,LV.lt,aq]) (by simp) ?_⟩;intro B hA hmd;have ho:=hc.owner;have ht:=hc.tgt;have hns:=kc hc;have hnl:(ca c).length=10:=rfl;refine .seq (.region rfl (bg (h:=aa (h:=.n0 (.seq (.region rfl (ai (es:=[_]) (fun _=>mm [99,97,108,108]) (h:=bo fX (ys:=[fB [99,97,108,108]].map Fd.c) (xs:=[_]) (es:=[(true,.agg ((fB [99,97,108,108]).c.map LV.sv))]) (hcs:=CellsOfs.cons (CellsOf.agg rfl) CellsOfs.nil) (hys:=rfl) (h:=aa (h:=.n0 (.seq (.region rfl (af jw (h:=?_))))))))))))));refine ag O3 (h:=af uy (h:=ag sL (h:=bS Tryz.runUnderlying43 Tryz.runUnderlying2 (h:=af ux (h:=ag sL (h:=bS Tryz.runUnderlying43 Tryz.runUnderlying2 (h:=af pD (h:=ag O3 (h:=af pC (h:=ag O3 (h:=af ya (h:=ag O3 (h:=af x9 (h:=?_))))))))))))));refine ag O3 (h:=af x8 (h:=ag O3 (h:=af x7 (h:=ag O3 (h:=af pB (h:=ag O3 (h:=qj Ii (is:=[0,1,2,3,4,5,6,7,8,9]) (xs:=[_,_,_,_,_,_,_,_,_,_]) (es:=[_,_,_,_,_,_,_,_,_,_]) (h:=aD HA (h:=ar I3 (h:=.n0 (.seq (.seq (.region rfl ?_)))))))))))));refine aa (h:=.n0 (.block (.loop ?_)));rw[show[fB [99,97,108,108]].map Fd.c=(fB [99,97,108,108]::((ca c).take 0).map fD).map Fd.c from rfl];refine ay (σ:=Nat) (fun x=>x≤10) (fun x=>[(5,(true,.i (x:Nat))),(3,(true,.ref 1))]) (fun x=>[(0,.box 45 (c.c.map LV.sv)),(1,.rs 73 2 ((fB [99,97,108,108]::((ca c).take x).map fD).map Fd.c)),(2,.box 152 ((ca c).map fun n=>(.i n:LV)))]) (fun x=>10-x) (0) [(1,_),(4,_)] (Nat.zero_le _) (by repeat (first|exact trivial|refine⟨rfl,?_⟩)) (by repeat (first|exact trivial|refine⟨rfl,?_⟩)) (by repeat (first|exact trivial|refine⟨rfl,?_⟩)) ?_;rintro j hj ih;refine .seq (.seq (.region rfl (ae (h:=ah (au _ _ _ _ _ _) (h:=.n0 ?_)))));refine ao (ht:=fun hc=>?_) (hf:=fun hc=>?_);have hltj:j<(ca c).length:=by omega
 have hm:=hns _ (List.getElem_mem hltj);have hx2:((ca c).map fun n=>(.i n:LV))[0+((j:Nat):Int).toNat*1]?=some (.i (ca c)[j]):=by rw[Int.toNat_natCast,Nat.zero_add,Nat.mul_one,List.getElem?_map,List.getElem?_eq_getElem hltj];rfl
 have hst:(fB [99,97,108,108]::((ca c).take (j+1)).map fD).map Fd.c=(fB [99,97,108,108]::((ca c).take j).map fD).map Fd.c++[(fD (ca c)[j]).c]:=by rw[List.take_succ_eq_append_getElem hltj,List.map_append,←List.cons_append,List.map_append];rfl
 have htl:((ca c).take j).length≤10:=by rw[List.length_take];omega
 generalize(ca c)[j]=n at hx2 hm hst;refine .skip (.seq (.block (.region rfl (ae (h:=ae (h:=bN lR (hj:=fun _=>⟨by omega,by omega⟩) (h:=ag O2 (hb:=rfl) (hc:=hx2) (h:=ai (es:=[_]) (fun _=>lA n hm) (h:=az fX (xs:=[_]) (es:=[_]) (hcs:=CellsOfs.cons (CellsOf.agg rfl) CellsOfs.nil) (h:=aO fX (hs:=SrcOk.sl Tryz.underlying68 (by simp[fD,Fd.c])) (hlen:=by simp;omega) (h:=aa (h:=.n0 (.inBlock ?_)))))))))))));refine .region rfl (ae (h:=aG (h:=aa (h:=.n0 (.inLoop ?_)))));exact bM [0,3,2] (b:=0) (fun o h=>by have:=(hA o).1 h;omega) (ih (j+1) (by omega) (by omega)) (by repeat (first|exact trivial|refine⟨rfl,?_⟩)) ⟨rfl,by rw[hst];rfl,rfl,trivial⟩;obtain rfl:j=10:=by omega
 rw[show(ca c).take 10=ca c from rfl];refine .exit rfl (.seq (.region rfl (ae (h:=af gY (h:=ag O9 (h:=ai (es:=[_]) (fun _=>qu c.raw) (h:=az fX (xs:=[_]) (es:=[_]) (hcs:=CellsOfs.cons (CellsOf.agg rfl) CellsOfs.nil) (h:=aO fX (hs:=SrcOk.sl Tryz.underlying68 (by simp[fQ,Fd.c])) (hlen:=by simp;omega) (h:=?_)))))))));rw[show(fB [99,97,108,108]::(ca c).map fD).map Fd.c++[List.map y7 (List.map LV.sv (fQ c.raw).c)]=(cq c).map Fd.c from by unfold cq;rw[List.map_append];rfl];refine aa (h:=.n0 (LGo.frz 3 (h:=?_)));exact LGo.ret (ax Tryz.results41 hA hmd)
def eR(k:Int):List UInt8:=[[],[115,101,110,100],[112,105,99,107],[102,97,105,114],[116,105,99,107]].getD k.toNat []
theorem uz{x:SrE}(h:x.kind=1∨x.kind=2∨x.kind=3∨x.kind=4):hY x=if x.kind=1 then[fB (eR x.kind),fD x.a,fD x.b]else[fB (eR x.kind),fD x.a]:=by
 unfold hY;rcases h with h|h|h|h<;>rw[h]<;>rfl
theorem BK(k:Int)(h:0≤k∧k≤4):PC Tryz.prog 99 [.i k] (.t (eR k)):=by
 refine⟨LC.of_go Tryz.func99 (c:=_) rfl (by kernel_rfl) (by rw[Tryz.ntmps99];simp) rfl rfl (by simp[LO.lt,an,LV.lt,aq]) (by simp) ?_⟩;intro B hA hmd;have hx:(bn [[],[115,101,110,100],[112,105,99,107],[102,97,105,114],[116,105,99,107]])[k.toNat]?=some [.val (.string ⟨(eR k).toArray⟩)]:=by
  obtain⟨n,rfl,hn⟩:∃n:Nat,k=n∧n≤4:=⟨k.toNat,by omega,by omega⟩;rw[Int.toNat_natCast];unfold eR;rw[Int.toNat_natCast]
  match n,hn with
  |0,_=>rfl
  |1,_=>rfl
  |2,_=>rfl
  |3,_=>rfl
  |4,_=>rfl
 refine .seq (.region rfl (aa (h:=.n0 (.seq (.region rfl (bE iL (bn [[],[115,101,110,100],[112,105,99,107],[102,97,105,114],[116,105,99,107]]) (xs:=[_,_,_,_,_]) (es:=[_,_,_,_,_]) (hcs:=CellsOfs.cons (CellsOf.one rfl) (CellsOfs.cons (CellsOf.one rfl) (CellsOfs.cons (CellsOf.one rfl) (CellsOfs.cons (CellsOf.one rfl) (CellsOfs.cons (CellsOf.one rfl) CellsOfs.nil))))) (h:=ae (h:=aw wx (hj:=fun hg=>⟨by omega,hx⟩) (h:=aM O9 (h:=aa (h:=.n0 ?_)))))))))));exact LGo.ret (ax Tryz.results99 hA hmd)
theorem DW(x:SrE)(hk:x.kind=1∨x.kind=2∨x.kind=3∨x.kind=4)(ha:c8 x.a)(hb:c8 x.b):PC Tryz.prog 42 [.agg (x.c.map LV.sv)] (.sv (.sl 2 ((hY x).map Fd.c))):=by
 refine⟨LC.of_go Tryz.func42 (c:=_) rfl (by kernel_rfl) (by rw[Tryz.ntmps42];simp) rfl rfl (by simp[LO.lt,an,LV.lt,aq]) (by simp) ?_⟩;intro B hA hmd;rw[uz hk];obtain⟨g,e1⟩:∃g,(if x.kind=1 then[fB (eR x.kind),fD x.a,fD x.b]else[fB (eR x.kind),fD x.a])=g:=⟨_,rfl⟩;rw[e1];refine .seq (.region rfl (bg (h:=aa (h:=.n0 (.seq (.region rfl (af dQ (h:=ag O3 (h:=ai (es:=[_]) (fun _=>BK x.kind (by omega)) (h:=ai (es:=[_]) (fun _=>mm (eR x.kind)) (h:=af ei (h:=ag O2 (h:=ai (es:=[_]) (fun _=>lA x.a ha) (h:=?_))))))))))))));refine bo fX (ys:=[fB (eR x.kind),fD x.a].map Fd.c) (xs:=[_,_]) (es:=[(true,.agg ((fB (eR x.kind)).c.map LV.sv)),(true,.agg ((fD x.a).c.map LV.sv))]) (hcs:=CellsOfs.cons (CellsOf.agg rfl) (CellsOfs.cons (CellsOf.agg rfl) CellsOfs.nil)) (hys:=rfl) (h:=aa (h:=Reg.nil ⟨fun _=>⟨aQ,by rfl,by rfl⟩,.seq (.seq (.region rfl (af dQ (h:=ag O3 (h:=ah (av _ _ _ _ _ _) (h:=.n0 ?_))))))⟩));refine ao (ht:=fun hc=>?_) (hf:=fun hc=>?_);rw[if_pos hc]at e1;subst e1;refine .region rfl (ae (h:=af jK (h:=ag O2 (h:=ai (es:=[_]) (fun _=>lA x.b hb) (h:=az fX (xs:=[_]) (es:=[_]) (hcs:=CellsOfs.cons (CellsOf.agg rfl) CellsOfs.nil) (h:=aO fX (hs:=SrcOk.sl Tryz.underlying68 (by simp[fD,Fd.c])) (hlen:=by simp) (h:=aa (h:=.n0 (.seq (.region rfl (ae (h:=aa (h:=.n0 ?_)))))))))))));refine LGo.frz 2 (h:=?_);exact LGo.ret (ax Tryz.results42 hA hmd);rw[if_neg hc]at e1;subst e1;refine .skip (.seq (.region rfl (ae (h:=aa (h:=.n0 (LGo.frz 1 (h:=?_)))))));exact LGo.ret (ax Tryz.results42 hA hmd)
theorem zR(tx:List UInt8)(ht:tx.length≤100000):PC Tryz.prog 89 [.t tx] (.i (Lib.countByte tx 10:Nat)):=by
 refine⟨LC.of_go Tryz.func89 (c:=_) rfl (by kernel_rfl) (by rw[Tryz.ntmps89];simp) rfl rfl (by simp[LO.lt,an,LV.lt,aq]) (by simp) ?_⟩;intro B hA hmd;obtain⟨C,hC⟩:∃C,Lib.countByte tx 10=C:=⟨_,rfl⟩;rw[hC];refine .seq (.region rfl (aa (h:=.n0 (.seq (.region rfl (aa (h:=.n0 (.seq (.seq (.region rfl (aa (h:=.n0 (.block ?_)))))))))))));refine .loop ?_;refine ay (σ:=Nat×Nat) (fun x=>x.1≤tx.length∧x.2≤x.1∧x.2+Lib.countByte (tx.drop x.1) 10=C) (fun x=>[(4,(true,.i (x.1:Nat))),(3,(true,.i (x.2:Nat)))]) (fun x=>[]) (fun x=>tx.length-x.1) (0,0) [(0,_)] ⟨Nat.zero_le _,Nat.zero_le _,by dsimp only;rw[List.drop_zero];omega⟩ (by repeat (first|exact trivial|refine⟨rfl,?_⟩)) (by repeat (first|exact trivial|refine⟨rfl,?_⟩)) (by repeat (first|exact trivial|refine⟨rfl,?_⟩)) ?_;rintro⟨k,n⟩ ⟨hk,hn,hq⟩ ih;dsimp only at*;refine .seq (.seq (.region rfl (ae (h:=ae (h:=bC Tryz.runUnderlying9 (h:=ah (au _ _ _ _ _ _) (h:=.n0 ?_)))))));refine ao (ht:=fun hc=>?_) (hf:=fun hc=>?_);have hlt:k<tx.length:=by omega
 have hx:tx[((k:Nat):Int).toNat]?=some tx[k]:=by simp[hlt]
 rw[List.drop_eq_getElem_cons hlt]at hq;generalize tx[k]=c at hx hq;have hcc:∀l:List UInt8,Lib.countByte (c::l) 10=Lib.countByte l 10+if c=10 then 1 else 0:=fun l=>by unfold Lib.countByte;rw[List.count_cons];by_cases h:c=10<;>simp[h]
 rw[hcc]at hq;refine .skip (.seq (.block (.seq (.region rfl (ae (h:=ae (h:=bu Tryz.runUnderlying9 (hj:=fun hg=>⟨by omega,hx⟩) (h:=ah (av _ _ _ _ _ _) (h:=.n0 ?_)))))))));refine ao (ht:=fun hc2=>?_) (hf:=fun hc2=>?_);rw[if_pos (by apply UInt8.toNat_inj.1;show c.toNat=10;omega)]at hq;refine .region rfl (ae (h:=aG (h:=aa (h:=.n0 (.inBlock (.region rfl (ae (h:=aG (h:=aa (h:=.n0 (.inLoop ?_)))))))))));exact LGo.next _ (fun o h=>by have:=(hA o).1 h;omega) (by omega) (ih (k+1,n+1) ⟨by dsimp only;omega,by dsimp only;omega,by dsimp only;omega⟩ (by dsimp only;omega)) (by repeat (first|exact trivial|refine⟨rfl,?_⟩)) (by repeat (first|exact trivial|refine⟨rfl,?_⟩));rw[if_neg (by intro h;rw[h]at hc2;exact hc2 rfl)]at hq;refine .skip (.inBlock (.region rfl (ae (h:=aG (h:=aa (h:=.n0 (.inLoop ?_)))))));exact LGo.next _ (fun o h=>by have:=(hA o).1 h;omega) (by omega) (ih (k+1,n) ⟨by dsimp only;omega,by dsimp only;omega,by dsimp only;omega⟩ (by dsimp only;omega)) (by repeat (first|exact trivial|refine⟨rfl,?_⟩)) (by repeat (first|exact trivial|refine⟨rfl,?_⟩));rw[List.drop_eq_nil_of_le (by omega),show Lib.countByte [] 10=0 from rfl]at hq;obtain rfl:n=C:=by omega
 refine .exit rfl (.seq (.region rfl (ae (h:=aa (h:=.n0 ?_)))));exact LGo.ret (ax Tryz.results89 hA hmd)
theorem se(wd tx:List UInt8)(hw:wd.length≤100)(ht:tx.length≤90000):PC Tryz.prog 34 [.t wd,.t tx] (.t (fW wd tx)):=by
 refine⟨LC.of_go Tryz.func34 (c:=_) rfl (by kernel_rfl) (by rw[Tryz.ntmps34];simp) rfl rfl (by simp[LO.lt,an,LV.lt,aq]) (by simp) ?_⟩;intro B hA hmd;have hcb:=countB_le tx 10;obtain⟨W,hW⟩:∃W,fW wd tx=W:=⟨_,rfl⟩;rw[hW];unfold fW at hW;have hd:=bt (n:=(Lib.countByte tx 10:Nat)) (by unfold c8;omega);refine .seq (.region rfl (aa (h:=.n0 (.seq (.region rfl (ae (h:=ah (aN _ _ _ (wd) ([32]) (by first|omega|(simp only[List.length_append,List.length_cons,List.length_nil]at*;omega))) (h:=ae (h:=ai (es:=[_]) (fun _=>zR tx (by omega)) (h:=ai (es:=[_]) (fun _=>qN (Lib.countByte tx 10:Nat) (by unfold c8;omega)) (h:=?_)))))))))));generalize Lib.itoa (Lib.countByte tx 10:Nat)=dg at hW hd⊢;refine ah (aN _ _ _ (wd++[32]) (dg) (by first|omega|(simp only[List.length_append,List.length_cons,List.length_nil]at*;omega))) (h:=ah (aN _ _ _ (wd++[32]++dg) ([10]) (by first|omega|(simp only[List.length_append,List.length_cons,List.length_nil]at*;omega))) (h:=ae (h:=ah (aN _ _ _ (wd++[32]++dg++[10]) (tx) (by first|omega|(simp only[List.length_append,List.length_cons,List.length_nil]at*;omega))) (h:=?_))));rw[hW];refine aa (h:=.n0 ?_);exact LGo.ret (ax Tryz.results34 hA hmd)
theorem vd{l:List Fd}(h:∀f∈l,oR f)(h64:l.length≤64)(hl:∀f∈l,f.s.length≤2000)(hn:(aU l).length≤8192):eg l=(aU l,0):=by
 unfold eg;rw[if_neg (by omega),if_neg (by
  unfold jo;rw[List.any_eq_true];rintro⟨f,hf,h2⟩;have:=hl f hf;simp at h2;omega),if_neg (by
  unfold mY;rw[List.any_eq_true];rintro⟨f,hf,h2⟩;unfold jG at h2;have:=h f hf;simp only[Bool.and_eq_true,Bool.not_eq_true']at h2;rw[this h2.1]at h2;cases h2.2),if_neg (by omega)]
theorem dT{n:Int}:de (Lib.itoa n)=true:=by
 have h0:∀m:Nat,∀c∈Lib.decDigits m,(bU c&&!decide (c.toNat=32))=true:=fun m=>by
  have:=sC m;unfold de at this;rw[Bool.and_eq_true,List.all_eq_true]at this;exact this.1
 unfold Lib.itoa;split;unfold de;rw[Bool.and_eq_true,List.all_eq_true];refine⟨fun c hc=>?_,by simp⟩;rcases List.mem_cons.1 hc with rfl|hc
 decide;exact h0 _ c hc;exact sC _
theorem xV{s:List UInt8}(h:de s=true):oR (fB s):=fun _=>h
theorem FF(n:Int):oR (fD n):=fun _=>dT
theorem FE(s:List UInt8):oR (fQ s):=fun h=>by cases h
theorem AS(a b:List UInt8):aU [fB a,fB b]=a++[32]++b:=by
 show Lib.join [a,b] [32]=_;rw[Lib.join_cons,show Lib.joinTail [32] [b]=([32]++b)++[]from rfl];simp
theorem xq{n:Int}(h:c8 n):lnF [fB [119,111,114,107,101,114,115],fD n]=[119,111,114,107,101,114,115]++[32]++Lib.itoa n++[10]:=by
 have hd:=bt h;unfold lnF;rw[vd (by
  intro f hf;simp only[List.mem_cons,List.not_mem_nil,or_false]at hf;rcases hf with rfl|rfl
  exact xV (by decide);exact FF n) (by simp) (by
  intro f hf;simp only[List.mem_cons,List.not_mem_nil,or_false]at hf;rcases hf with rfl|rfl
  decide;show(Lib.itoa n).length≤2000;omega) (by rw[show[fB [119,111,114,107,101,114,115],fD n]=[fB [119,111,114,107,101,114,115],fB (Lib.itoa n)]from rfl,AS];simp only[List.length_append,List.length_cons,List.length_nil];omega)]
 rw[show[fB [119,111,114,107,101,114,115],fD n]=[fB [119,111,114,107,101,114,115],fB (Lib.itoa n)]from rfl,AS]
def fT(L:List (List Fd)):List (List SV):=L.map fun l=>[.sl 2 (l.map Fd.c)]
theorem qp(L:List (List Fd))(l:List Fd):fT (L++[l])=fT L++[[.sl 2 (l.map Fd.c)]]:=by unfold fT;rw[List.map_append];rfl
theorem nf(L:List (List Fd)):(fT L).length=L.length:=by unfold fT;rw[List.length_map]
theorem Cl(s:Sc)(hok:s.ok)(hn:s.near):PC Tryz.prog 7 [.agg (s.c.map LV.sv)] (.tup [.t (gW s).1,.i (gW s).2]):=by
 refine⟨LC.of_go Tryz.func7 (c:=_) rfl (by kernel_rfl) (by rw[Tryz.ntmps7];simp) rfl rfl (by simp[LO.lt,an,LV.lt,aq]) (by simp) ?_⟩;intro B hA hmd;obtain⟨g,e0⟩:∃g,gW s=g:=⟨_,rfl⟩;have e1:=e0;unfold gW at e1;rw[e0];refine .seq (.region rfl (bg (h:=aa (h:=aa (h:=.n0 (.seq (.region rfl (aB gu (h:=ai (es:=[_]) (fun _=>C6 s (hok.sm hn)) (h:=ae (h:=ak (h:=ak (h:=aa (h:=?_))))))))))))));refine aa (h:=.n0 (.seq (.seq (.region rfl (ae (h:=ah (aC _ _ _ _ _ _) (h:=.n0 ?_)))))));refine aj (ht:=fun hc=>?_) (hf:=fun hc=>?_);rw[if_pos (by simpa using hc)]at e1;rw[←e1];refine .seq (.region rfl (ae (h:=aa (h:=aa (h:=.n0 ?_)))));exact LGo.ret (aI Tryz.results7 hA hmd);have hc0:(cg s).2=0:=by simpa using hc
 rw[if_neg (by rw[hc0];decide)]at e1;rw[←e1];dsimp only;clear e0 e1;obtain⟨hb0,hel,hev⟩:=gO hc0;obtain⟨hv0,hg0,hg1,hg8,hk64⟩:=qe hb0;have hnw:kU s.gates=(⟨s.gates,[]⟩,0):=by unfold kU;rw[if_neg (by rw[hg0];decide)]
 have hvB:zd s.ven:=⟨hok.n1,hok.n2,hok.n3,hn.vl,fun x hx=>⟨(hn.vs x hx).1,(hn.vs x hx).2,(hok.vs x hx).2.2.1,(hok.vs x hx).2.2.2⟩⟩;have hvl:=iY hvB;have hgo:=hok.gs;have hgl:=iZ (l:=s.gates) (fun g hg=>⟨(hgo g hg).2.2.1,(hgo g hg).2.2.2,hn.gs g hg⟩) (by omega);have hwk:=hok.w;have hcn:s.calls.length≤20:=by
  rcases hn.cl with h|h
  exact h;have:=tE hb0;omega
 have hen:s.evs.length≤100:=by
  rcases hn.el with h|h
  exact h;omega
 have hsg:DB ⟨s.gates,[]⟩:=⟨⟨by show s.gates.length≤_;omega,fun g hg=>by have:=hn.gs g hg;omega⟩,by show(0:Nat)≤_;omega,by simp⟩;have hgc:dp ⟨s.gates,[]⟩=0:=by unfold dp;rw[if_neg (by rw[hg0];decide)];rfl
 obtain⟨F,hF⟩:∃F,eD s=F:=⟨_,rfl⟩;rw[hF];unfold eD at hF;obtain⟨E0,hE0⟩:∃E,(s.evs.map fun x=>lnF (hY x)).flatten=E:=⟨_,rfl⟩;rw[hE0]at hF;have hF0:F≠[]:=by rw[←hF];unfold fW;simp
 have hFL:eD s=fW [118,101,110,117,101] (cC s.ven)++lnF [fB [107,101,121],fQ s.key]++fW [103,97,116,101,115] (cz ⟨s.gates,[]⟩)++([119,111,114,107,101,114,115]++[32]++Lib.itoa s.workers++[10])++((s.calls.map cq++s.evs.map hY).map lnF).flatten:=by
  unfold eD;rw[xq hwk,List.map_append,List.flatten_append,List.map_map,List.map_map];simp only[List.append_assoc];rfl
 rw[←hE0]at hF;rw[show fW _ _++_++_++_++_++_=eD s from rfl,hFL]at hF;clear hE0 hFL;obtain⟨LL,hLL⟩:∃L,(s.calls.map cq++s.evs.map hY)=L:=⟨_,rfl⟩;rw[hLL]at hF;have hLn:LL.length=s.calls.length+s.evs.length:=by rw[←hLL,List.length_append,List.length_map,List.length_map]
 have hLm:∀l∈LL,l.length≤12:=by
  intro l hl;rw[←hLL]at hl;rcases List.mem_append.1 hl with h|h
  obtain⟨c,_,rfl⟩:=List.mem_map.1 h;exact Nat.le_refl _
  ·obtain⟨x,_,rfl⟩:=List.mem_map.1 h;unfold hY
   repeat' split
   all_goals (show List.length (_::_)≤_;simp)
 have hiw:=bt hwk;refine .skip (.seq (.region rfl (af fh (h:=dq sM (h:=ai (es:=[_]) (fun _=>zF s.ven hv0 hvB) (h:=ae (h:=ak (h:=ak (h:=aa (h:=aa (h:=.n0 (.seq (.region rfl ?_)))))))))))));refine ae (h:=ai (es:=[_,_]) (fun _=>se [118,101,110,117,101] (cC s.ven) (by decide) (by omega)) (h:=aa (h:=.n0 ?_)));obtain⟨M1,q1⟩:∃M,fW [118,101,110,117,101] (cC s.ven)=M:=⟨_,rfl⟩;have hm1:M1.length≤6400:=by have:=iq [118,101,110,117,101] (cC s.ven) (by omega);rw[←q1];simp only[List.length_cons,List.length_nil]at this;omega
 rw[q1]at hF⊢;refine .seq (.region rfl (ai (es:=[_]) (fun _=>mm [107,101,121]) (h:=af jz (h:=ag O9 (h:=ai (es:=[_]) (fun _=>qu s.key) (h:=az fX (ys:=[fB [107,101,121],fQ s.key].map Fd.c) (xs:=[_,_]) (es:=[_,_]) (hcs:=CellsOfs.cons (CellsOf.agg rfl) (CellsOfs.cons (CellsOf.agg rfl) (CellsOfs.nil))) (hys:=rfl) (h:=ai (es:=[_]) (fun _=>yB [fB [107,101,121],fQ s.key] (by simp)) (h:=ae (h:=ak (h:=ak (h:=aa (h:=aa (h:=Reg.nil ⟨fun _=>⟨aQ,by rfl,by rfl⟩,?_⟩)))))))))))));have hj1:=fp [fB [107,101,121],fQ s.key];rw[show lnF [fB [107,101,121],fQ s.key]=(eg [fB [107,101,121],fQ s.key]).1++[10]from rfl]at hF;generalize(eg [fB [107,101,121],fQ s.key]).1=J at hF hj1⊢;refine .seq (.region rfl (af fE (h:=ag gQ (h:=ai (es:=[_]) (fun _=>Bm s.gates (by omega) (fun g hg=>by have:=hn.gs g hg;omega)) (h:=?_)))));rw[hnw];refine ae (h:=ak (h:=ak (h:=aD Dz (h:=ar nS (h:=aa (h:=.n0 (.seq (.region rfl (aB nS (h:=ai (es:=[_]) (fun _=>zG s.gates hsg hgc (fun g hg=>⟨(hgo g hg).2.2.1,(hgo g hg).2.2.2,(hgo g hg).2.1,by have:=hn.gs g hg;have:=iy g.secs;omega⟩) (by omega)) (h:=ae (h:=ak (h:=ak (h:=?_))))))))))))));refine aa (h:=.n0 (.seq (.region rfl (ae (h:=ae (h:=ah (aN _ _ _ (M1) (J) (by first|omega|(simp only[List.length_append,List.length_cons,List.length_nil]at*;omega))) (h:=ah (aN _ _ _ (M1++J) ([10]) (by first|omega|(simp only[List.length_append,List.length_cons,List.length_nil]at*;omega))) (h:=ae (h:=ai (es:=[_,_]) (fun _=>se [103,97,116,101,115] (cz ⟨s.gates,[]⟩) (by decide) (by omega)) (h:=?_))))))))));have hbl:=iq [103,97,116,101,115] (cz ⟨s.gates,[]⟩) (by omega);generalize fW [103,97,116,101,115] (cz ⟨s.gates,[]⟩)=Bg at hF hbl⊢;simp only[List.length_cons,List.length_nil]at hbl;refine ah (aN _ _ _ (M1++J++[10]) (Bg) (by first|omega|(simp only[List.length_append,List.length_cons,List.length_nil]at*;omega))) (h:=ah (aN _ _ _ (M1++J++[10]++Bg) ([119,111,114,107,101,114,115,32]) (by first|omega|(simp only[List.length_append,List.length_cons,List.length_nil]at*;omega))) (h:=af jy (h:=ag O3 (h:=ai (es:=[_]) (fun _=>qN s.workers hwk) (h:=?_)))));generalize Lib.itoa s.workers=iw at hF hiw⊢;refine ah (aN _ _ _ (M1++J++[10]++Bg++[119,111,114,107,101,114,115,32]) (iw) (by first|omega|(simp only[List.length_append,List.length_cons,List.length_nil]at*;omega))) (h:=ah (aN _ _ _ (M1++J++[10]++Bg++[119,111,114,107,101,114,115,32]++iw) ([10]) (by first|omega|(simp only[List.length_append,List.length_cons,List.length_nil]at*;omega))) (h:=aa (h:=Reg.nil ⟨fun _=>⟨aQ,by rfl,by rfl⟩,?_⟩)));obtain⟨M4,q4⟩:∃M,M1++J++[10]++Bg++[119,111,114,107,101,114,115,32]++iw++[10]=M:=⟨_,rfl⟩;have hm4:M4.length≤28300:=by rw[←q4];simp only[List.length_append,List.length_cons,List.length_nil];omega
 rw[q4];have hF4:M4++(LL.map lnF).flatten=F:=by rw[←hF,←q4];simp
 refine .seq (.region rfl (aa (h:=.n0 (.seq (.seq (.region rfl (aa (h:=.n0 (.block (.loop (bZ 13 68 1 (h:=?_))))))))))));rw[show([]:List (List SV))=fT ((s.calls.take 0).map cq)from rfl];refine ay (σ:=Nat) (fun x=>x≤s.calls.length) (fun x=>[(14,(true,.i (x:Nat))),(13,(true,.ref 2))]) (fun x=>[(0,.box 29 (s.c.map LV.sv)),(2,.rs 68 1 (fT ((s.calls.take x).map cq)))]) (fun x=>s.calls.length-x) (0) [(1,_),(8,_)] (Nat.zero_le _) (by repeat (first|exact trivial|refine⟨rfl,?_⟩)) (by repeat (first|exact trivial|refine⟨rfl,?_⟩)) (by repeat (first|exact trivial|refine⟨rfl,?_⟩)) ?_;rintro k hk ih;refine .seq (.seq (.region rfl (ae (h:=af cP (h:=ag kT (h:=aF rh (h:=?_)))))));rw[List.length_map];refine ah (au _ _ _ _ _ _) (h:=.n0 ?_);refine ao (ht:=fun hc2=>?_) (hf:=fun hc2=>?_);have hlt:k<s.calls.length:=by omega
 have hx:(s.calls.map SrC.c)[((k:Nat):Int).toNat]?=some s.calls[k].c:=by simp[hlt]
 have hd:s.calls.drop k=s.calls[k]::s.calls.drop (k+1):=List.drop_eq_getElem_cons hlt;have hz:=hok.cs s.calls[k] (List.getElem_mem hlt);have hst:fT ((s.calls.take (k+1)).map cq)=fT ((s.calls.take k).map cq)++[[.sl 2 ((cq s.calls[k]).map Fd.c)]]:=by rw[List.take_succ_eq_append_getElem hlt,List.map_append];exact qp _ _
 have htl:(s.calls.take k).length≤20:=by rw[List.length_take];omega
 generalize s.calls[k]=z at hx hz hst;clear hd;refine .skip (.seq (.block (.region rfl (ae (h:=af cP (h:=ag kT (h:=ae (h:=aw DC (hj:=fun hg=>⟨by omega,hx⟩) (h:=aR lK (h:=ai (es:=[_]) (fun _=>De z hz) (h:=az DQ (xs:=[_]) (es:=[_]) (hcs:=CellsOfs.cons (CellsOf.one rfl) CellsOfs.nil) (h:=aO DQ (hs:=SrcOk.sl Tryz.underlying92 (by simp)) (hlen:=by rw[nf];simp;omega) (h:=aa (h:=?_))))))))))))));refine .n0 (.inBlock (.region rfl (ae (h:=aG (h:=aa (h:=.n0 (.inLoop ?_)))))));exact bM [0,1,3] (b:=0) (fun o h=>by have:=(hA o).1 h;omega) (ih (k+1) (by omega) (by omega)) (by repeat (first|exact trivial|refine⟨rfl,?_⟩)) ⟨rfl,by rw[hst];rfl,trivial⟩;obtain rfl:k=s.calls.length:=by omega
 rw[List.take_length];refine .exit rfl (.seq (.seq (.region rfl (aa (h:=.n0 (.block (.loop ?_)))))));rw[show fT (s.calls.map cq)=fT (s.calls.map cq++(s.evs.take 0).map hY)from by simp];refine ay (σ:=Nat) (fun x=>x≤s.evs.length) (fun x=>[(15,(true,.i (x:Nat))),(13,(true,.ref 2))]) (fun x=>[(0,.box 29 (s.c.map LV.sv)),(2,.rs 68 1 (fT (s.calls.map cq++(s.evs.take x).map hY)))]) (fun x=>s.evs.length-x) (0) [(1,_),(8,_)] (Nat.zero_le _) (by repeat (first|exact trivial|refine⟨rfl,?_⟩)) (by repeat (first|exact trivial|refine⟨rfl,?_⟩)) (by repeat (first|exact trivial|refine⟨rfl,?_⟩)) ?_;rintro m hm ih2;refine .seq (.seq (.region rfl (ae (h:=af cF (h:=ag gG (h:=aF oV (h:=?_)))))));rw[List.length_map];refine ah (au _ _ _ _ _ _) (h:=.n0 ?_);refine ao (ht:=fun hc3=>?_) (hf:=fun hc3=>?_);have hlt:m<s.evs.length:=by omega
 have hx:(s.evs.map SrE.c)[((m:Nat):Int).toNat]?=some s.evs[m].c:=by simp[hlt]
 have hd:s.evs.drop m=s.evs[m]::s.evs.drop (m+1):=List.drop_eq_getElem_cons hlt;have hz:=hok.es s.evs[m] (List.getElem_mem hlt);have hzk:=xW (hev s.evs[m] (List.getElem_mem hlt));have hst:fT (s.calls.map cq++(s.evs.take (m+1)).map hY)=fT (s.calls.map cq++(s.evs.take m).map hY)++[[.sl 2 ((hY s.evs[m]).map Fd.c)]]:=by rw[List.take_succ_eq_append_getElem hlt,List.map_append,←List.append_assoc];exact qp _ _
 have htl:(s.evs.take m).length≤100:=by rw[List.length_take];omega
 generalize s.evs[m]=z at hx hz hzk hst;clear hd;refine .skip (.seq (.block (.region rfl (ae (h:=af cF (h:=ag gG (h:=ae (h:=aw wB (hj:=fun hg=>⟨by omega,hx⟩) (h:=aR iG (h:=ai (es:=[_]) (fun _=>DW z (by omega) hz.2.1 hz.2.2) (h:=az DQ (xs:=[_]) (es:=[_]) (hcs:=CellsOfs.cons (CellsOf.one rfl) CellsOfs.nil) (h:=aO DQ (hs:=SrcOk.sl Tryz.underlying92 (by simp)) (hlen:=by rw[nf];simp;omega) (h:=aa (h:=?_))))))))))))));refine .n0 (.inBlock (.region rfl (ae (h:=aG (h:=aa (h:=.n0 (.inLoop ?_)))))));exact bM [0,1,3] (b:=0) (fun o h=>by have:=(hA o).1 h;omega) (ih2 (m+1) (by omega) (by omega)) (by repeat (first|exact trivial|refine⟨rfl,?_⟩)) ⟨rfl,by rw[hst];rfl,trivial⟩;obtain rfl:m=s.evs.length:=by omega
 rw[List.take_length,hLL];refine LGo.frz 2 (h:=.exit rfl (.seq (.seq (.region rfl (aa (h:=.n0 (.block (.loop ?_))))))));refine ay (σ:=Nat×List UInt8) (fun x=>x.1≤LL.length∧x.2.length≤28300+8200*x.1∧x.2++((LL.drop x.1).map lnF).flatten=F) (fun x=>[(16,(true,.i (x.1:Nat))),(8,(true,.t x.2))]) (fun x=>[(0,.box 29 (s.c.map LV.sv))]) (fun x=>LL.length-x.1) (0,M4) [(13,_)] ⟨Nat.zero_le _,by dsimp only;omega,hF4⟩ (by repeat (first|exact trivial|refine⟨rfl,?_⟩)) (by repeat (first|exact trivial|refine⟨rfl,?_⟩)) (by repeat (first|exact trivial|refine⟨rfl,?_⟩)) ?_;rintro⟨i,ac⟩ ⟨hi,hal,hq⟩ ih3;dsimp only at*;refine .seq (.seq (.region rfl (ae (h:=ae (h:=aF Jl (h:=?_))))));rw[nf];refine ah (au _ _ _ _ _ _) (h:=.n0 ?_);refine ao (ht:=fun hc4=>?_) (hf:=fun hc4=>?_);have hlt:i<LL.length:=by omega
 have hx3:(fT LL)[((i:Nat):Int).toNat]?=some [.sl 2 (LL[i].map Fd.c)]:=by unfold fT;simp[hlt]
 have hlm:=hLm LL[i] (List.getElem_mem hlt);rw[List.drop_eq_getElem_cons hlt,List.map_cons,List.flatten_cons]at hq;generalize LL[i]=l at hx3 hq hlm;have hjl:=fp l;rw[show lnF l=(eg l).1++[10]from rfl]at hq;refine .skip (.seq (.block (.seq (.region rfl (ae (h:=ae (h:=aw Jo (hj:=fun hg=>⟨by omega,hx3⟩) (h:=aM rn (h:=ai (es:=[_]) (fun _=>yB l (by omega)) (h:=?_))))))))));generalize(eg l).1=jn at hq hjl⊢;refine ae (h:=ak (h:=ak (h:=aa (h:=aa (h:=.n0 (.region rfl (ae (h:=ae (h:=ah (aN _ _ _ (ac) (jn) (by first|omega|(simp only[List.length_append,List.length_cons,List.length_nil]at*;omega))) (h:=ah (aN _ _ _ (ac++jn) ([10]) (by first|omega|(simp only[List.length_append,List.length_cons,List.length_nil]at*;omega))) (h:=aa (h:=.n0 (.inBlock ?_)))))))))))));refine .region rfl (ae (h:=aG (h:=aa (h:=.n0 (.inLoop ?_)))));exact LGo.next _ (fun o h=>by have:=(hA o).1 h;omega) (by omega) (ih3 (i+1,ac++jn++[10]) ⟨by dsimp only;omega,by dsimp only;simp only[List.length_append,List.length_cons,List.length_nil];omega,by dsimp only;rw[←hq];simp⟩ (by dsimp only;omega)) (by repeat (first|exact trivial|refine⟨rfl,?_⟩)) (by repeat (first|exact trivial|refine⟨rfl,?_⟩));rw[List.drop_eq_nil_of_le (by omega),List.map_nil,List.flatten_nil,List.append_nil]at hq;subst hq;refine .exit rfl (.seq (.region rfl (ae (h:=aa (h:=aa (h:=.n0 ?_))))));exact LGo.ret (aI Tryz.results7 hA hmd)
abbrev TT:=List UInt8×List UInt8
def cA(r:List UInt8):List UInt8:=if ew r 45=true then pg r 45 else cJ r 45
def nX(r:List UInt8):Option TT:=
 if di (cJ r 45)=true∧di (cA r)=true∧(ew r 45=true→gR (cJ r 45) (cA r)<0)then some (cJ r 45,cA r)else none
def fO:Option (List UInt8)→List UInt8→Bool
 |none,_=>true
 |some p,a=>decide (gR (ef p) a<0)
def rl:Option (List UInt8)→List (List UInt8)→Option (List TT)
 |_,[]=>some []
 |pv,r::rs=>match nX r with
  |none=>none
  |some (a,b)=>if fO pv a=true then(rl (some b) rs).map ((a,b)::·)else none
theorem sr{s:List UInt8}(h:¬(s.headD 0).toNat=45):ib s=di s:=p8 (fun h2=>h h2.2.1)
theorem E5{s:List UInt8}(h:(s.headD 0).toNat=45):di s=false:=by
 cases hd:di s with
 |false=>rfl
 |true=>
  obtain⟨c,l,rfl,h1,_,_⟩:=eH hd;unfold cd at h1;simp at h1 h;omega
theorem E7(r:List UInt8):¬((cJ r 45).headD 0).toNat=45:=by
 have hno:(45:UInt8)∉cJ r 45:=by
  rcases qS r 45 with⟨h1,h2⟩|⟨a,b,h1,h2,h3⟩
  rw[h1];exact h2;rw[h3];exact h2
 cases hc:cJ r 45 with
 |nil=>simp
 |cons x l=>
  rw[hc]at hno;intro h;exact hno (by rw[show x=45 from UInt8.toNat.inj h];simp)
def AW(f e:List UInt8)(is:Bool)(k:Nat)(last:List UInt8):Bool:=!ib f||!ib e||decide (((e.headD 0).toNat:Int)=45)||(is&&decide (gR f e≥0))||(decide ((k:Int)>0)&&!decide (gR (ef last) f<0))
def ue(k:Nat)(last:List UInt8):Option (List UInt8):=if 0<k then some last else none
theorem HV(k:Nat)(last f:List UInt8):fO (ue k last) f=!(decide ((k:Int)>0)&&!decide (gR (ef last) f<0)):=by
 unfold ue;by_cases hk:0<k;rw[if_pos hk,show decide ((k:Int)>0)=true from by simp;omega];simp[fO];rw[if_neg hk,show decide ((k:Int)>0)=false from by simp;omega];simp[fO]
theorem xh(r:List UInt8):(!ib (cJ r 45)||!ib (cA r)||decide ((((cA r).headD 0).toNat:Int)=45)||(ew r 45&&decide (gR (cJ r 45) (cA r)≥0)))=!decide (di (cJ r 45)=true∧di (cA r)=true∧(ew r 45=true→gR (cJ r 45) (cA r)<0)):=by
 rw[sr (E7 r)];by_cases h45:((cA r).headD 0).toNat=45;rw[E5 h45,show decide ((((cA r).headD 0).toNat:Int)=45)=true from decide_eq_true (by omega)];simp;rw[sr h45,show decide ((((cA r).headD 0).toNat:Int)=45)=false from decide_eq_false (by omega)];cases di (cJ r 45)<;>cases di (cA r)<;>cases ew r 45<;>simp
 rw[Bool.eq_iff_iff];simp
theorem CJ(r:List UInt8)(rs:List (List UInt8))(k:Nat)(last:List UInt8):
 (AW (cJ r 45) (cA r) (ew r 45) k last=true→rl (ue k last) (r::rs)=none)∧
 (AW (cJ r 45) (cA r) (ew r 45) k last=false→di (cJ r 45)=true∧di (cA r)=true∧rl (ue k last) (r::rs)=(rl (some (cA r)) rs).map ((cJ r 45,cA r)::·)):=by
 unfold AW;rw[xh,show(decide ((k:Int)>0)&&!decide (gR (ef last) (cJ r 45)<0))=!fO (ue k last) (cJ r 45)from by rw[HV,Bool.not_not]];by_cases hr:di (cJ r 45)=true∧di (cA r)=true∧(ew r 45=true→gR (cJ r 45) (cA r)<0);have e:nX r=some (cJ r 45,cA r):=if_pos hr;rw[rl,e,decide_eq_true hr];cases h:fO (ue k last) (cJ r 45)<;>simp[h,hr.1,hr.2.1]
 have e:nX r=none:=if_neg hr;rw[rl,e,decide_eq_false hr];simp
theorem zq(c:UInt8)(s:List UInt8):∀r∈Lib.split s [c],r.length≤s.length:=by
 have key:∀(s cur:List UInt8),∀r∈y5 c cur s,r.length≤cur.length+s.length:=by
  intro s;induction s with
  |nil=>intro cur r hr;simp[y5]at hr;subst hr;simp
  |cons x s ih=>
   intro cur r hr;rw[y5]at hr;split at hr;rcases List.mem_cons.1 hr with rfl|hr
   omega;have:=ih [] r hr;simp at this⊢;omega;have:=ih _ r hr;simp at this⊢;omega
 intro r hr;rw[←na c _ s (Nat.le_refl _)]at hr;have:=key s [] r hr;simpa using this
theorem Ad(r:List UInt8):(cA r).length≤r.length:=by
 unfold cA pg;split;split;rw[List.length_drop];omega;simp;exact mj r 45
def uk(p:TT):List SV:=[.val (.string ⟨p.1.toArray⟩),.val (.string ⟨p.2.toArray⟩)]
def jr(ps:List TT):List UInt8:=(ps.getLast?.map (·.2)).getD []
def sT:List TT→List Int→Option (List Int)
 |[],out=>some out
 |p::r,out=>if(500:Int)-out.length≤(aY 0 p.2:Int)-(aY 0 p.1:Int)then none else sT r (out++(List.range (aY 0 p.2+1-aY 0 p.1)).map fun j=>((aY 0 p.1+j:Nat):Int))
def m3(s:List UInt8):List Int×Int:=if s=[45]then([],0)else match rl none (Lib.split s [44])with
 |none=>([],6)
 |some ps=>if 0<gR (jr ps) (Lib.itoa 1000000000)then([],7)else match sT ps []with
  |none=>([],3)
  |some l=>(l,0)
theorem C3{s:List UInt8}(h:ib s=true):0<s.length∧s[0]?=some (s.headD 0):=by
 cases s with
 |nil=>exact absurd h (by decide)
 |cons c l=>exact⟨by simp,rfl⟩
theorem vg(s:List UInt8)(hs:s.length≤100000):PC Tryz.prog 191 [.t s] (.b (ib s)):=by
 have h:=oB s hs;rw[vC]at h;exact h
theorem oF:∀(l:List UInt8) (a:Nat),l.all cd=true→Lib.decFrom a l=some (aY a l)
 |[],a,_=>rfl
 |c::l,a,h=>by
  rw[List.all_cons,Bool.and_eq_true]at h;have h1:48≤c.toNat∧c.toNat≤57:=by have:=h.1;unfold cd at this;simpa using this
  rw[Lib.decFrom,show Lib.digitVal c=some (c.toNat-48)from if_pos h1];exact oF l _ h.2
theorem Dd{t:List UInt8}(h:di t=true):Lib.atoi t=some (aY 0 t:Nat):=by
 obtain⟨c,l,rfl,h1,h2,_⟩:=eH h;have h3:=vB h1;have e1:(c==45)=false:=by rw[beq_eq_false_iff_ne];intro e;subst e;exact h3.1 rfl
 have e2:(c==43)=false:=by rw[beq_eq_false_iff_ne];intro e;subst e;exact h3.2 rfl
 have e3:Lib.decNat (c::l)=some (aY 0 (c::l)):=by
  unfold Lib.decNat;rw[if_neg (by simp),oF (c::l) 0 (by rw[List.all_cons,h1,h2];rfl)]
 simp[Lib.atoi,e1,e2,e3]
section
open Go.RowKit
theorem Bw(t:List UInt8)(h:di t=true)(h18:t.length≤18):PC Tryz.prog 226 [.t t] (.tup [.i (aY 0 t:Nat),.v .nilIface]):=
 eN (Entr.of Tryz.func226 rfl (by kernel_rfl)) (by simp[an,LV.lt]) fun cx w vs hl ham hv=>by
  obtain⟨v1,rfl,h1⟩:∃v1,vs=[v1]∧V cx w (.t t) v1:=by
   simp only[Vs]at hv;obtain⟨v1,r1,rfl,h1,rfl⟩:=hv;exact⟨_,rfl,h1⟩
  rw[h1.val];refine(Tryz.strconv_Atoi ⟨t.toArray⟩ _ (by show t.toArray.size≤_;simpa using h18) (Dd h) w).mono ?_;rintro e w' ⟨rfl,tt,rfl⟩;have hb:Below w.heap.size w (Lib.bytesWorld w 5 tt):=⟨rfl,rfl,rfl,by rw[Lib.bytesWorld_size];omega,fun k hk=>Lib.bytesWorld_at_old w _ _ k hk⟩;exact⟨_,cx.pr,rfl,hb,fun _ _=>rfl,fun b hb'=>Nat.lt_of_lt_of_le (hl b hb') hb.size,by simp only[V];exact⟨[_,_],rfl,iU aZ (iU aZ s7)⟩⟩
end
theorem vP{r a b:List UInt8}(h:nX r=some (a,b)):di a=true∧di b=true∧aY 0 a≤aY 0 b:=by
 unfold nX at h;split at h;rename_i hh;obtain⟨h1,h2,h3⟩:=hh;simp only[Option.some.injEq,Prod.mk.injEq]at h;obtain⟨rfl,rfl⟩:=h;refine⟨h1,h2,?_⟩;by_cases hc:ew r 45=true;have:=(kg h1 h2).1.1 (h3 hc);omega;unfold cA;rw[if_neg hc];exact Nat.le_refl _;cases h
theorem xw(p q:TT)(ps:List TT):jr (p::q::ps)=jr (q::ps):=by unfold jr;rw[List.getLast?_cons_cons]
theorem sh:∀(rs:List (List UInt8)) (pv:Option (List UInt8)) (ps:List TT),rl pv rs=some ps→(∀p∈ps,di p.1=true∧di p.2=true∧aY 0 p.1≤aY 0 p.2∧aY 0 p.2≤aY 0 (jr ps))∧(∀p r,ps=p::r→fO pv p.1=true)
 |[],pv,ps,h=>by
  simp only[rl,Option.some.injEq]at h;subst h;exact⟨by simp,by simp⟩
 |r::rs,pv,ps,h=>by
  rw[rl]at h;cases hr:nX r with
  |none=>rw[hr]at h;cases h
  |some ab=>
   obtain⟨a,b⟩:=ab;rw[hr]at h;dsimp only at h;split at h;rename_i hok;cases hg:rl (some b) rs with
   |none=>rw[hg]at h;cases h
   |some qs=>
    rw[hg]at h;simp only[Option.map_some,Option.some.injEq]at h;subst h;obtain⟨i1,i2⟩:=sh rs (some b) qs hg;obtain⟨f1,f2,f3⟩:=vP hr;refine⟨fun p hp=>?_,fun p r' he=>by simp only[List.cons.injEq]at he;obtain⟨rfl,_⟩:=he;exact hok⟩;cases qs with
    |nil=>
     simp only[List.mem_singleton]at hp;subst hp;exact⟨f1,f2,f3,Nat.le_refl _⟩
    |cons q qs=>
     rw[xw];rcases List.mem_cons.1 hp with rfl|hp
     obtain⟨k1,k2,k3,k4⟩:=i1 q (by simp);have ho:gR (ef b) q.1<0:=by have:=i2 q qs rfl;unfold fO at this;simpa using this
     obtain⟨n1,n2⟩:=rZ f2;have:=(kg n1 k1).1.1 ho;exact⟨f1,f2,f3,by dsimp only;omega⟩;exact i1 p hp
   cases h
theorem qR{t:List UInt8}(h:di t=true)(hv:aY 0 t≤1000000000):t.length≤18:=by
 obtain⟨c,l,rfl,h1,h2,h3⟩:=eH h;rcases Nat.lt_or_ge 17 l.length with hl|hl
 have:=uD (l:=l) h1 (h3 (by intro e;subst e;simp at hl));have h4:10^18≤10^l.length:=Nat.pow_le_pow_right (by omega) hl;have h5:(10:Nat)^18=1000000000000000000:=by decide
 omega;simp;omega
theorem o5:di (Lib.itoa 1000000000)=true∧aY 0 (Lib.itoa 1000000000)=1000000000:=by
 have e:Lib.itoa 1000000000=Lib.decDigits 1000000000:=by unfold Lib.itoa;rw[if_neg (by decide)];rfl
 rw[e];exact⟨eM _,(bX _).2.1⟩
theorem Ci{rs:List (List UInt8)}{ps:List TT}(h:rl none rs=some ps)(hm:¬0<gR (jr ps) (Lib.itoa 1000000000)):∀p∈ps,di p.1=true∧di p.2=true∧p.1.length≤18∧p.2.length≤18∧aY 0 p.1≤aY 0 p.2∧aY 0 p.2≤1000000000:=fun p hp=>by
 have hf:=(sh rs none ps h).1;obtain⟨h1,h2,h3,h4⟩:=hf p hp;have hl:di (jr ps)=true:=by
  unfold jr;cases hg:ps.getLast? with
  |none=>rw[List.getLast?_eq_none_iff]at hg;subst hg;cases hp
  |some q=>exact(hf q (List.mem_of_getLast? hg)).2.1
 have:=mt (kg hl o5.1).2.2 hm;rw[o5.2]at this;exact⟨h1,h2,qR h1 (by omega),qR h2 (by omega),h3,by omega⟩
theorem Ex(s:List UInt8)(hs:s.length≤20000):PC Tryz.prog 190 [.t s] (.tup [.sv (.sl 1 (ic .i64 (m3 s).1)),.i (m3 s).2]):=by
 refine⟨LC.of_go Tryz.func190 (c:=_) rfl (by kernel_rfl) (by rw[Tryz.ntmps190];simp) rfl rfl (by simp[LO.lt,an,LV.lt,aq]) (by simp) ?_⟩;intro B hA hmd;obtain⟨g,e0⟩:∃g,m3 s=g:=⟨_,rfl⟩;have e1:=e0;unfold m3 at e1;rw[e0];refine .seq (.region rfl (aa (h:=aa (h:=.n0 (.seq (.seq (.region rfl (ae (h:=ah (bH _ _ _ _ _) (h:=.n0 ?_))))))))));refine ao (ht:=fun hc=>?_) (hf:=fun hc=>?_);rw[if_pos hc]at e1;rw[←e1];refine .seq (.region rfl (aa (h:=aa (h:=.n0 (bP 2 1 (h:=?_))))));exact LGo.ret (aI Tryz.results190 hA hmd);rw[if_neg hc]at e1;refine .skip (.seq (.region rfl (aa (h:=.n0 (.seq (.region rfl (aa (h:=.n0 (.seq (.seq (.region rfl (ae (h:=ai (es:=[_,_]) (fun _=>BV 44 s (by omega)) (h:=?_))))))))))))));have hrl:=zr 44 s;have hmem:=zq 44 s;generalize Lib.split s [44]=rs at e1 hrl hmem⊢;refine aF pc (h:=?_);rw[bq];refine ae (h:=.n0 (.block (.loop (bZ 5 294 2 (h:=?_)))));refine ay (σ:=Nat×List UInt8×List TT) (fun x=>x.1≤rs.length∧x.2.2.length=x.1∧x.2.1=jr x.2.2∧x.2.1.all cd=true∧x.2.1.length≤20000∧rl none rs=(rl (ue x.1 x.2.1) (rs.drop x.1)).map (x.2.2++·)) (fun x=>[(24,(true,.i (x.1:Nat))),(4,(true,.t x.2.1)),(5,(true,.ref 0))]) (fun x=>[(0,.rs 294 2 (x.2.2.map uk))]) (fun x=>rs.length-x.1) (0,[],[]) [(22,_),(23,_)] ⟨Nat.zero_le _,rfl,rfl,rfl,Nat.zero_le _,by show _=(rl none rs).map _;cases rl none rs<;>rfl⟩ (by repeat (first|exact trivial|refine⟨rfl,?_⟩)) (by repeat (first|exact trivial|refine⟨rfl,?_⟩)) (by repeat (first|exact trivial|refine⟨rfl,?_⟩)) ?_;rintro⟨k,last,out⟩ ⟨hk,hol,hla,hld,hll,hq⟩ ih;dsimp only at*;refine .seq (.region rfl (ah (au _ _ _ _ _ _) (h:=.n0 (.seq ?_))));refine ao (ht:=fun hc2=>?_) (hf:=fun hc2=>?_);have hlt:k<rs.length:=by omega
 have hx:(bn rs)[((k:Nat):Int).toNat]?=some [.val (.string ⟨rs[k].toArray⟩)]:=by simp[bn,hlt]
 rw[List.drop_eq_getElem_cons hlt]at hq;have hrm:=hmem rs[k] (List.getElem_mem hlt);generalize rs[k]=r at hx hq hrm;obtain⟨g1,g2⟩:=CJ r (rs.drop (k+1)) k last;have hc1:=mj r 45;have hce:=Ad r;refine .skip (.seq (.block (.seq (.region rfl (ae (h:=aw wx (hj:=fun hg=>⟨by omega,hx⟩) (h:=aM O9 (h:=aa (h:=aa (h:=.n0 (.seq (.region rfl (ae (h:=?_))))))))))))));refine ai (es:=[_,_]) (fun _=>AV r 45 (by omega)) (h:=ae (h:=ak (h:=ak (h:=ak (h:=aa (h:=aa (h:=aa (h:=.n0 (.seq (.seq (.region rfl (ae (h:=bd (h:=?_))))))))))))));refine .n0 ?_;refine l8 (σ:=List UInt8) (fun x=>x=cA r) (fun x=>[(9,(true,.t x))]) (fun x=>[(0,.rs 294 2 (out.map uk))]) 1 [(4,_),(5,_),(6,_),(8,_),(10,_),(22,_),(23,_),(24,_)] (by repeat (first|exact trivial|refine⟨rfl,?_⟩)) ?_ (fun hcut=>?_);rintro x hx9;subst hx9;refine .seq (.seq (.region rfl (ae (h:=ai (es:=[_]) (fun _=>vg (cJ r 45) (by omega)) (h:=bd (h:=ae (h:=ae (h:=ai (es:=[_]) (fun _=>vg (cA r) (by omega)) (h:=bd (h:=aX (h:=ae (h:=ae (h:=bu Tryz.runUnderlying9 (c:=(cA r).headD 0) (hj:=fun hg=>by simp at hg;obtain⟨h1,h2⟩:=C3 hg.2;exact⟨by omega,by simpa using h2⟩) (h:=?_))))))))))))));refine ah (av _ _ _ _ _ _) (h:=aX (h:=ae (h:=ae (h:=ae (h:=ae (h:=ae (h:=ai (es:=[_,_]) (fun _=>s5 (cJ r 45) (cA r) (by omega) (by omega)) (h:=ah (bh _ _ _ _ _ _) (h:=aT (h:=aX (h:=ae (h:=ae (h:=ah (aJ _ _ _ _ _ _) (h:=?_))))))))))))));refine ae (h:=ae (h:=ae (h:=ai (es:=[_,_]) (fun _=>z7 last (cJ r 45) hld (by omega) (by omega)) (h:=bd (h:=aT (h:=aX (h:=.n0 ?_)))))));refine aj (ht:=fun hc4=>?_) (hf:=fun hc4=>?_);rw[g1 hc4,Option.map_none]at hq;rw[hq]at e1;dsimp only at e1;rw[←e1];refine .seq (.region rfl (aa (h:=aa (h:=.n0 (bP 2 1 (h:=?_))))));exact LGo.ret (aI Tryz.results190 hA hmd);obtain⟨g3,g4,g5⟩:=g2 hc4;rw[g5,Option.map_map]at hq;refine .skip (.seq (.region rfl (ae (h:=aa (h:=.n0 (.region rfl (ae (h:=ae (h:=ae (h:=qj Ih (is:=[0,1]) (xs:=[_,_]) (es:=[_,_]) (h:=az FO (xs:=[_]) (es:=[_]) (hcs:=CellsOfs.cons (CellsOf.agg rfl) CellsOfs.nil) (h:=aO FO (hs:=SrcOk.sl Tryz.underlying293 (by intro c hc;simp at hc;subst hc;rfl)) (hlen:=by rw[List.length_map];simp;omega) (h:=aa (h:=?_))))))))))))));refine .n0 (.inBlock (.region rfl (aG (h:=ae (h:=.n0 (.inLoop ?_))))));exact bM [1] (b:=0) (fun o h=>by have:=(hA o).1 h;omega) (ih (k+1,cA r,out++[(cJ r 45,cA r)]) ⟨by dsimp only;omega,by dsimp only;simp[hol],by simp[jr],ky g4,by dsimp only;omega,by dsimp only;rw[hq,show ue (k+1) (cA r)=some (cA r)from if_pos (by omega)];congr 1;funext x;simp⟩ (by dsimp only;omega)) (by repeat (first|exact trivial|refine⟨rfl,?_⟩)) ⟨by rw[List.map_append];rfl,trivial⟩;refine aj (ht:=fun hc3=>?_) (hf:=fun hc3=>?_);refine .region rfl (ae (h:=aa (h:=.n0 ?_)));exact LGo.next _ (fun o h=>by have:=(hA o).1 h;omega) (by omega) (hcut (cJ r 45) (by unfold cA;rw[if_neg (by simpa using hc3)])) (by repeat (first|exact trivial|refine⟨rfl,?_⟩)) (by repeat (first|exact trivial|refine⟨rfl,?_⟩));refine .skip ?_;exact LGo.next _ (fun o h=>by have:=(hA o).1 h;omega) (by omega) (hcut (pg r 45) (by unfold cA;rw[if_pos (by simpa using hc3)])) (by repeat (first|exact trivial|refine⟨rfl,?_⟩)) (by repeat (first|exact trivial|refine⟨rfl,?_⟩));obtain rfl:k=rs.length:=by omega
 have hq2:rl none rs=some out:=by rw[hq,List.drop_length];simp[rl]
 rw[hq2]at e1;dsimp only at e1;refine LGo.frz 0 (h:=.exit rfl (.seq (.seq (.region rfl (ae (h:=ai (es:=[_]) (fun _=>jL 1000000000 (by decide) (by decide)) (h:=?_)))))));have hi:=l6 (n:=1000000000) (by decide) (by decide);refine ai (es:=[_,_]) (fun _=>s5 last (Lib.itoa 1000000000) (by omega) (by omega)) (h:=ah (aJ _ _ _ _ _ _) (h:=.n0 ?_));refine ao (ht:=fun hc5=>?_) (hf:=fun hc5=>?_);rw[←hla,if_pos hc5]at e1;rw[←e1];refine .seq (.region rfl (aa (h:=aa (h:=.n0 (bP 2 1 (h:=?_))))));exact LGo.ret (aI Tryz.results190 hA hmd);rw[←hla,if_neg hc5]at e1;have hfact:=Ci hq2 (by rw[←hla];exact hc5);clear hq hmem hq2;refine .skip (.seq (.region rfl (aa (h:=.n0 (.seq (.seq (.region rfl (ae (h:=aF IP (h:=?_))))))))));rw[List.length_map];refine ae (h:=.n0 (.block (.loop (bZ 11 3 1 (h:=?_)))));refine ay (σ:=Nat×List Int) (fun x=>x.1≤out.length∧x.2.length≤500∧sT out []=sT (out.drop x.1) x.2) (fun x=>[(84,(true,.i (x.1:Nat))),(11,(true,.ref 1))]) (fun x=>[(1,.rs 3 1 (ic .i64 x.2))]) (fun x=>out.length-x.1) (0,[]) [(82,_),(83,_)] ⟨Nat.zero_le _,Nat.zero_le _,rfl⟩ (by repeat (first|exact trivial|refine⟨rfl,?_⟩)) (by repeat (first|exact trivial|refine⟨rfl,?_⟩)) (by repeat (first|exact trivial|refine⟨rfl,?_⟩)) ?_;rintro⟨j,acc⟩ ⟨hj,hal,hq3⟩ ih2;dsimp only at*;refine .seq (.region rfl (ah (au _ _ _ _ _ _) (h:=.n0 (.seq ?_))));refine ao (ht:=fun hc6=>?_) (hf:=fun hc6=>?_);have hlt:j<out.length:=by omega
 have hx:(out.map uk)[((j:Nat):Int).toNat]?=some (uk out[j]):=by simp[hlt]
 rw[List.drop_eq_getElem_cons hlt,sT]at hq3;obtain⟨f1,f2,f3,f4,f5,f6⟩:=hfact out[j] (List.getElem_mem hlt);generalize out[j]=p at hx hq3 f1 f2 f3 f4 f5 f6;obtain⟨a,b⟩:=p;dsimp only at hq3 f1 f2 f3 f4 f5 f6;simp only[uk]at hx;refine .skip (.seq (.block (.seq (.region rfl (aw IW (hj:=fun hg=>⟨by omega,hx⟩) (h:=aR HH (h:=aD IL (h:=ar HH (h:=.n0 (.seq (.region rfl (bN HF (hj:=fun _=>⟨by omega,by omega⟩) (h:=ag O9 (h:=?_))))))))))))));refine ai (es:=[_]) (fun _=>Bw a f1 f3) (h:=ae (h:=ak (h:=ak (h:=aa (h:=aa (h:=.n0 (.seq (.region rfl (bN HF (hj:=fun _=>⟨by omega,by omega⟩) (h:=ag O9 (h:=ai (es:=[_]) (fun _=>Bw b f2 f4) (h:=ae (h:=ak (h:=?_))))))))))))));refine ak (h:=aa (h:=aa (h:=.n0 (.seq (.seq (.region rfl (ae (h:=ae (h:=dD (h:=ae (h:=eX iE (h:=?_))))))))))));rw[bp];refine dD (h:=ah (bh _ _ _ _ _ _) (h:=.n0 ?_));refine ao (ht:=fun hc7=>?_) (hf:=fun hc7=>?_);rw[if_pos (by omega)]at hq3;rw[hq3]at e1;dsimp only at e1;rw[←e1];refine .seq (.region rfl (aa (h:=aa (h:=.n0 (bP 2 1 (h:=?_))))));exact LGo.ret (aI Tryz.results190 hA hmd);rw[if_neg (by omega)]at hq3;refine .skip (.seq (.region rfl (ae (h:=aa (h:=.n0 (.block (.loop ?_)))))));refine ay (σ:=Nat×List Int) (fun x=>x.1≤aY 0 b+1-aY 0 a∧x.2=acc++(List.range x.1).map fun j=>((aY 0 a+j:Nat):Int)) (fun x=>[(18,(true,.i ((aY 0 a+x.1:Nat):Nat))),(11,(true,.ref 1))]) (fun x=>[(1,.rs 3 1 (ic .i64 x.2))]) (fun x=>aY 0 b+1-aY 0 a-x.1) (0,acc) [(16,_),(82,_),(83,_),(84,_)] ⟨Nat.zero_le _,by simp⟩ (by repeat (first|exact trivial|refine⟨rfl,?_⟩)) (by repeat (first|exact trivial|refine⟨rfl,?_⟩)) (by repeat (first|exact trivial|refine⟨rfl,?_⟩)) ?_;rintro⟨i,c⟩ ⟨hi2,hcc⟩ ih3;dsimp only at*;refine .seq (.seq (.region rfl (ae (h:=ae (h:=ah (cb _ _ _ _ _ _) (h:=.n0 ?_))))));refine ao (ht:=fun hc8=>?_) (hf:=fun hc8=>?_);have hcl:c.length=acc.length+i:=by rw[hcc];simp
 refine .skip (.seq (.block (.region rfl (ae (h:=ae (h:=az fa (xs:=[_]) (es:=[_]) (hcs:=CellsOfs.cons (CellsOf.one rfl) CellsOfs.nil) (h:=aO fa (hs:=SrcOk.sl Tryz.underlying38 (by simp)) (hlen:=by rw[bp];simp;omega) (h:=aa (h:=.n0 (.inBlock (.region rfl (ae (h:=aG (h:=?_))))))))))))));refine aa (h:=.n0 (.inLoop ?_));rw[show((aY 0 a+i:Nat):Int)+1=((aY 0 a+(i+1):Nat):Int)from by omega];exact bM [0,3,2] (b:=0) (fun o h=>by have:=(hA o).1 h;omega) (ih3 (i+1,c++[((aY 0 a+i:Nat):Int)]) ⟨by dsimp only;omega,by dsimp only;rw[hcc,List.range_succ,List.map_append,List.append_assoc];rfl⟩ (by dsimp only;omega)) (by repeat (first|exact trivial|refine⟨rfl,?_⟩)) ⟨by rw[o6];rfl,trivial⟩;have hi3:i=aY 0 b+1-aY 0 a:=by omega
 rw[hi3]at hcc;rw[←hcc]at hq3;have hcl:c.length=acc.length+(aY 0 b+1-aY 0 a):=by rw[hcc];simp
 refine .exit rfl (.inBlock (.region rfl (aG (h:=ae (h:=.n0 (.inLoop ?_))))));exact LGo.next _ (fun o h=>by have:=(hA o).1 h;omega) (by omega) (ih2 (j+1,c) ⟨by dsimp only;omega,by dsimp only;omega,hq3⟩ (by dsimp only;omega)) (by repeat (first|exact trivial|refine⟨rfl,?_⟩)) ⟨rfl,trivial⟩;rw[List.drop_of_length_le (by omega),sT]at hq3;rw[hq3]at e1;dsimp only at e1;rw[←e1];refine .exit rfl (.seq (.region rfl (ae (h:=aa (h:=aa (h:=.n0 (dG 2 (h:=?_))))))));exact LGo.ret (aI Tryz.results190 hA hmd)
section
open Go.RowKit
theorem xA(s:List UInt8)(hs:s.length≤2000000):PC Tryz.prog 152 [.t s,.t [10],.i 0,.i (-1)] (.sv (.sl 1 (bn (Lib.split s [10])))):=
 eN (Entr.of Tryz.func152 rfl (by kernel_rfl)) (by simp[an,LV.lt]) fun cx w vs hl ham hv=>by
  obtain⟨v1,v2,v3,v4,rfl,h1,h2,h3,h4⟩:∃v1 v2 v3 v4,vs=[v1,v2,v3,v4]∧V cx w (.t s) v1∧V cx w (.t [10]) v2∧V cx w (.i 0) v3∧V cx w (.i (-1)) v4:=by
   simp only[Vs]at hv;obtain⟨v1,r1,rfl,h1,v2,r2,rfl,h2,v3,r3,rfl,h3,v4,r4,rfl,h4,rfl⟩:=hv;exact⟨_,_,_,_,rfl,h1,h2,h3,h4⟩
  rw[h1.val,h2.val,h3.val,h4.val];have hz:(⟨s.toArray⟩:ByteArray).size=s.length:=by simp[ByteArray.size]
  have hle:=Lib.countB_le ⟨#[10]⟩ (Nat.le_refl _) s.length ⟨s.toArray⟩ (Nat.le_of_eq hz);have hlen:=Lib.splitB_all ⟨#[10]⟩ (Nat.le_refl _) 0 _ ⟨s.toArray⟩ rfl;have c:=Any.strings_genSplit_core mE (by kernel_rfl) ⟨s.toArray⟩ ⟨#[10]⟩ 0 (-1) (Lib.countB ⟨s.toArray⟩ ⟨#[10]⟩+1) w (by rw[hz];omega) (Nat.le_refl _) (Nat.zero_le _)
   (fun x c hx=>(Any.strings_Index_one ji x 10 _).mono fun e w' ⟨he,hw⟩=>⟨by rw[he,←Lib.index_one],hw⟩)
   ((Any.strings_Count_one jj ⟨s.toArray⟩ 10 w).mono fun e w' ⟨he,hw⟩=>⟨by
    rw[he];show _=Ending.returned (Value.int .i64 ((Lib.count (ByteArray.mk s.toArray).data.toList [10]:Nat):Int));rw[Lib.count_one];rfl,hw⟩)
   (by decide) (by decide) (by rw[if_pos (by decide),hz];omega)
  rw[Nat.add_sub_cancel,hlen]at c;have e2:Lib.cellsOf (Lib.splitB ⟨#[10]⟩ 0 (Lib.countB ⟨s.toArray⟩ ⟨#[10]⟩) ⟨s.toArray⟩) (Lib.countB ⟨s.toArray⟩ ⟨#[10]⟩+1)=((Lib.splitB ⟨#[10]⟩ 0 (Lib.countB ⟨s.toArray⟩ ⟨#[10]⟩) ⟨s.toArray⟩).map Value.string).toArray:=by
   conv=>lhs;arg 2;rw[←hlen]
   exact Lib.cellsOf_full _
  rw[e2]at c;refine c.mono ?_;rintro e w' ⟨rfl,rfl⟩;have e3:Lib.split s [10]=(Lib.splitB ⟨#[10]⟩ 0 (Lib.countB ⟨s.toArray⟩ ⟨#[10]⟩) ⟨s.toArray⟩).map (·.data.toList):=(Lib.splitB_data ⟨#[10]⟩ 0 _ ⟨s.toArray⟩).symm;rw[e3,uI];obtain⟨pr',k1,k2,k3⟩:=qI (w:=w) (T:=9) (B:=Lib.splitB ⟨#[10]⟩ 0 (Lib.countB ⟨s.toArray⟩ ⟨#[10]⟩) ⟨s.toArray⟩) (cx:=cx) hl (by rw[hlen];unfold maxLen;omega);rw[hlen]at k3;exact⟨_,pr',rfl,(Below.refl _ w).alloc (Nat.le_refl _) _,k1,k2,k3⟩
theorem vX(s:List UInt8)(hs:s.length≤2000000):PC Tryz.prog 100 [.t s,.t [10]] (.b (Lib.hasSuffix s [10])):=
 cL (Entr.of Tryz.func100 rfl (by kernel_rfl)) (by simp[an,LV.lt]) fun cx w vs hl ham hv=>by
  obtain⟨v1,v2,rfl,h2,h3⟩:∃v1 v2,vs=[v1,v2]∧V cx w (.t s) v1∧V cx w (.t [10]) v2:=by
   simp only[Vs]at hv;obtain⟨v1,r1,rfl,h1,v2,r2,rfl,h2,rfl⟩:=hv;exact⟨_,_,rfl,h1,h2⟩
  rw[h2.val,h3.val];refine(Tryz.strings_HasSuffix ⟨s.toArray⟩ ⟨#[10]⟩ w (by simp[ByteArray.size];omega)).mono ?_;rintro e w' ⟨rfl,rfl⟩;exact⟨rfl,rfl,rfl,rfl,Nat.le_refl _,fun _ _=>rfl⟩
end
def iN(s:List UInt8):List (List UInt8)×Int:=if 1048576<(s.length:Int)then([],3)else if s=[]then([],0)else if Lib.hasSuffix s [10]=false then([],6)
 else if 5000<((Lib.split (s.take (s.length-1)) [10]).length:Int)then([],3)else(Lib.split (s.take (s.length-1)) [10],0)
theorem zu(s:List UInt8)(hs:s.length≤2000000):PC Tryz.prog 101 [.t s,.t [10]] (.sv (.sl 1 (bn (Lib.split s [10])))):=by
 refine⟨LC.of_go Tryz.func101 (c:=_) rfl (by kernel_rfl) (by rw[Tryz.ntmps101];simp) rfl rfl (by simp[LO.lt,an,LV.lt,aq]) (by simp) ?_⟩;intro B hA hmd;refine .seq (.region rfl (aa (h:=.n0 (.seq (.region rfl (ae (h:=ae (h:=ai (es:=[_,_,_,_]) (fun _=>xA s hs) (h:=aa (h:=.n0 ?_))))))))));exact LGo.ret (ax Tryz.results101 hA hmd)
theorem pU(s:List UInt8)(hs:s.length≤2000000):PC Tryz.prog 43 [.t s] (.tup [.sv (.sl 1 (bn (iN s).1)),.i (iN s).2]):=by
 refine⟨LC.of_go Tryz.func43 (c:=_) rfl (by kernel_rfl) (by rw[Tryz.ntmps43];simp) rfl rfl (by simp[LO.lt,an,LV.lt,aq]) (by simp) ?_⟩;intro B hA hmd;obtain⟨g,e0⟩:∃g,iN s=g:=⟨_,rfl⟩;have e1:=e0;unfold iN at e1;rw[e0];refine .seq (.region rfl (aa (h:=aa (h:=.n0 (.seq (.block (.seq (.region rfl (ae (h:=bC Tryz.runUnderlying9 (h:=ah (aJ _ _ _ _ _ _) (h:=aa (h:=.n0 ?_)))))))))))));refine ao (ht:=fun hc=>?_) (hf:=fun hc=>?_);rw[if_pos hc]at e1;rw[←e1];refine .seq (.region rfl (aa (h:=aa (h:=.n0 (bP 2 1 (h:=?_))))));exact LGo.ret (aI Tryz.results43 hA hmd);rw[if_neg hc]at e1;refine .seq (.region rfl (ae (h:=ah (bH _ _ _ _ _) (h:=aa (h:=.n0 ?_)))));refine ao (ht:=fun hc2=>?_) (hf:=fun hc2=>?_);rw[if_pos hc2]at e1;rw[←e1];refine .seq (.region rfl (aa (h:=aa (h:=.n0 (bP 2 1 (h:=?_))))));exact LGo.ret (aI Tryz.results43 hA hmd);rw[if_neg hc2]at e1;have hpos:0<s.length:=List.length_pos_iff.2 hc2;refine .seq (.region rfl (ae (h:=ai (es:=[_,_]) (fun _=>vX s hs) (h:=bd (h:=aa (h:=.n0 ?_))))));refine aj (ht:=fun hc3=>?_) (hf:=fun hc3=>?_);rw[if_pos (by simpa using hc3)]at e1;rw[←e1];refine .seq (.region rfl (aa (h:=aa (h:=.n0 (bP 2 1 (h:=?_))))));exact LGo.ret (aI Tryz.results43 hA hmd);rw[if_neg (by simpa using hc3)]at e1;refine .skip (.inBlock (.seq (.region rfl (ae (h:=ae (h:=bC Tryz.runUnderlying9 (h:=dD (h:=lF Tryz.runUnderlying9 (ha:=fun _=>by simp;omega) (h:=?_)))))))));rw[show Int.toNat ((s.length:Int)-1)=s.length-1 from by omega];refine ai (es:=[_,_]) (fun _=>zu (s.take (s.length-1)) (by rw[List.length_take];omega)) (h:=aa (h:=.n0 (.seq (.seq (.region rfl (ae (h:=aF pc (h:=?_))))))));rw[bq];refine ah (aJ _ _ _ _ _ _) (h:=.n0 ?_);refine ao (ht:=fun hc4=>?_) (hf:=fun hc4=>?_);rw[if_pos hc4]at e1;rw[←e1];refine .seq (.region rfl (aa (h:=aa (h:=.n0 (bP 2 1 (h:=?_))))));exact LGo.ret (aI Tryz.results43 hA hmd);rw[if_neg hc4]at e1;rw[←e1];refine .skip (.seq (.region rfl (ae (h:=aa (h:=aa (h:=.n0 ?_))))));exact LGo.ret (aI Tryz.results43 hA hmd)
theorem zv(c:UInt8)(r:List UInt8):(ew r c=false∧Lib.split r [c]=[r]∧cJ r c=r)∨(ew r c=true∧Lib.split r [c]=cJ r c::Lib.split (pg r c) [c]):=by
 rcases dX c r with⟨h1,h2⟩|⟨a,b,h1,h2,h3⟩
 left;refine⟨by unfold ew;rw[h1];rfl,kj h2,?_⟩;unfold cJ;rw[if_neg (by omega)];right;have hi:=h3;rw[h1]at hi;have e1:cJ r c=a:=by unfold cJ;rw[h3,if_pos (by omega),Int.toNat_natCast,h1,List.take_left]
 have e2:pg r c=b:=by
  unfold pg;rw[h3,if_pos (by omega),Int.toNat_natCast,h1,←List.drop_drop,List.drop_left];rfl
 refine⟨by unfold ew;rw[h3];simp,?_⟩;rw[e1,e2,h1];exact iX h2 hi
abbrev Rn:=Nat×Nat
def rp(a k:Nat):List Int:=(List.range k).map fun j=>((a+j:Nat):Int)
theorem rU(a:Nat):rp a 0=[]:=rfl
theorem eL(a k:Nat):rp a (k+1)=(a:Int)::rp (a+1) k:=by
 unfold rp;rw[List.range_succ_eq_map,List.map_cons,List.map_map];congr 1;refine List.map_congr_left fun j _=>?_;show((a+(j+1):Nat):Int)=((a+1+j:Nat):Int);omega
theorem pS(a k:Nat):(rp a k).length=k:=by unfold rp;simp
def eJ:List Rn→List Int
 |[]=>[]
 |g::r=>rp g.1 (g.2+1)++eJ r
def lL(g:Rn):List UInt8:=dJ (g.1:Nat) g.2
def wF(g:Rn):TT:=(Lib.decDigits g.1,Lib.decDigits (g.1+g.2))
def js:List Rn→List UInt8
 |[]=>[]
 |[g]=>lL g
 |g::h::r=>lL g++44::js (h::r)
def wD:List Rn→Prop
 |g::h::r=>g.1+g.2+1<h.1∧wD (h::r)
 |_=>True
theorem si{g:Rn}{r:List Rn}(h:wD (g::r)):wD r:=by cases r with|nil=>trivial|cons b r=>exact h.2
theorem zL{g:Rn}{r:List Rn}(h:wD (g::r)):∀b r',eJ r=b::r'→((g.1+g.2+1:Nat):Int)<b:=by
 intro b r' he;cases r with
 |nil=>cases he
 |cons q r=>
  rw[eJ,eL,List.cons_append]at he;simp only[List.cons.injEq]at he;have:=h.1;omega
theorem pX(n:Nat):Lib.itoa (n:Int)=Lib.decDigits n:=by unfold Lib.itoa;rw[if_neg (by omega),Int.toNat_natCast]
theorem lY(g:Rn):lL g=if 0<g.2 then Lib.decDigits g.1++45::Lib.decDigits (g.1+g.2)else Lib.decDigits g.1:=by
 unfold lL dJ;rw[show((g.1:Nat):Int)+(g.2:Nat)=((g.1+g.2:Nat):Int)from by omega,pX,pX];rfl
theorem DU(g:Rn):lL g≠[]:=by
 rw[lY];split;simp;exact fw _
theorem qn:∀(k a:Nat) (r:List Int),(∀b r',r=b::r'→((a+k+1:Nat):Int)<b)→bT (a:Nat) (rp (a+1) k++r)=k
 |0,a,r,h=>by
  cases r with
  |nil=>rfl
  |cons b r=>
   have:=h b r rfl;rw[rU,List.nil_append,bT,if_neg (by omega)]
 |k+1,a,r,h=>by
  rw[eL,List.cons_append,bT,if_pos (by omega),qn k (a+1) r (fun b r' e=>by have:=h b r' e;omega)]
theorem oz:∀(G:List Rn) (f:Nat) (acc:List UInt8),wD G→(eJ G).length<f→da f (eJ G) acc=if G=[]then acc else acc++gH acc++js G
 |[],f,acc,_,_=>by rw[if_pos rfl];cases f<;>rfl
 |g::r,f,acc,hg,hf=>by
  rw[if_neg (by simp)];obtain⟨f,rfl⟩:∃n,f=n+1:=⟨f-1,by omega⟩;rw[eJ,eL,List.cons_append]at hf⊢;rw[da,qn g.2 g.1 (eJ r) (zL hg),List.drop_left' (pS _ _)];rw[List.length_cons,List.length_append]at hf;rw[oz r f _ (si hg) (by omega)];show(if r=[]then acc++gH acc++lL g else acc++gH acc++lL g++gH (acc++gH acc++lL g)++js r)=_;cases r with
  |nil=>rw[if_pos rfl];rfl
  |cons q r=>
   rw[if_neg (by simp),js];have:gH (acc++gH acc++lL g)=[44]:=by unfold gH;rw[if_neg];intro e;exact DU g (List.append_eq_nil_iff.1 e).2
   rw[this];simp
def sV:List Int→Prop
 |a::b::r=>a<b∧sV (b::r)
 |_=>True
theorem Ar{a:Int}{r:List Int}(h:sV (a::r)):sV r:=by cases r with|nil=>trivial|cons b r=>exact h.2
theorem yu:∀l:List Int,(∀x∈l,0≤x)→sV l→∃G,wD G∧eJ G=l
 |[],_,_=>⟨[],trivial,rfl⟩
 |a::l,h,hk=>by
  obtain⟨G,h1,h2⟩:=yu l (fun x hx=>h x (by simp[hx])) (Ar hk);have ha:=h a (by simp);obtain⟨n,rfl⟩:∃n:Nat,a=n:=⟨a.toNat,by omega⟩
  match G,h1,h2 with
  |[],_,h2=>exact⟨[(n,0)],trivial,by rw[←h2];rfl⟩
  |(b,k)::G,h1,h2=>
   rw[eJ,eL,List.cons_append]at h2;subst h2;have hab:=hk.1;by_cases hb:b=n+1;subst hb;refine⟨(n,k+1)::G,?_,?_⟩;cases G with
   |nil=>trivial
   |cons q G=>refine⟨?_,h1.2⟩;have:=h1.1;dsimp only at this⊢;omega
   rw[eJ,eL,eL,List.cons_append,List.cons_append];exact⟨(n,0)::(b,k)::G,⟨by dsimp only at hab⊢;omega,h1⟩,by rw[eJ,eJ,eL,eL,rU];rfl⟩
theorem yT:∀l:List Int,(∀i,i+1<l.length→l.getD i 0<l.getD (i+1) 0)→sV l
 |[],_=>trivial
 |[_],_=>trivial
 |a::b::r,h=>⟨h 0 (by simp),yT (b::r) (fun i hi=>by have:=h (i+1) (by simp at hi⊢;omega);simpa only[List.getD_cons_succ]using this)⟩
theorem yr:∀l:List Int,sV l→∀i,i+1<l.length→l.getD i 0<l.getD (i+1) 0
 |[],_,i,h=>by simp at h
 |[_],_,i,h=>by simp at h
 |a::b::r,h,0,_=>h.1
 |a::b::r,h,i+1,hi=>by
  have:=yr (b::r) h.2 i (by simp at hi⊢;omega);simpa only[List.getD_cons_succ]using this
theorem As{l:List Int}(h:eh l l.length=false):sV l:=yT l fun i hi=>by
 unfold eh at h;rw[List.any_eq_false]at h;have:=h (i+1) (List.mem_range.2 hi);rw[Nat.add_sub_cancel]at this;simp only[Bool.and_eq_true,decide_eq_true_eq,not_and]at this;have:=this (by omega);omega
theorem Ah{l:List Int}(h:sV l):eh l l.length=false:=by
 unfold eh;rw[List.any_eq_false];intro i hi;rw[List.mem_range]at hi;simp only[Bool.and_eq_true,decide_eq_true_eq,not_and];intro h0;have:=yr l h (i-1) (by omega);rw[show i-1+1=i from by omega]at this;omega
theorem Ey{l:List Int}(h:∀x∈l,0≤x∧x≤1000000000):lN l l.length=false:=by
 unfold lN;rw[List.any_eq_false];intro i hi;rw[List.mem_range]at hi;have:=h (l.getD i 0) (by rw[List.getD_eq_getElem?_getD,List.getElem?_eq_getElem hi];exact List.getElem_mem hi);simp only[Bool.or_eq_true,decide_eq_true_eq,not_or];omega
theorem ED{l:List Int}(h:lN l l.length=false):∀x∈l,0≤x∧x≤1000000000:=by
 intro x hx;obtain⟨i,hi,rfl⟩:=List.mem_iff_getElem.1 hx;have:=o4 h i
 rwa [List.getD_eq_getElem?_getD,List.getElem?_eq_getElem hi]at this
theorem np{c:UInt8}{a:List UInt8}(b:List UInt8)(h:c∉a):Lib.indexByte (a++c::b) c=(a.length:Nat):=by
 rcases dX c (a++c::b)with⟨_,h2⟩|⟨a',b',h1,h2,h3⟩
 exact absurd (by simp) h2;rw[h3,(lq a a' b b' h1 h h2).1]
theorem E6{c:UInt8}{a:List UInt8}(b:List UInt8)(h:c∉a):cJ (a++c::b) c=a∧pg (a++c::b) c=b∧ew (a++c::b) c=true:=by
 have hi:=np b h;refine⟨?_,?_,?_⟩;unfold cJ;rw[hi,if_pos (by omega),Int.toNat_natCast,List.take_left];unfold pg;rw[hi,if_pos (by omega),Int.toNat_natCast,←List.drop_drop,List.drop_left];rfl;unfold ew;rw[hi];simp
theorem GZ{c:UInt8}{s:List UInt8}(h:c∉s):cJ s c=s∧ew s c=false:=by
 rcases zv c s with⟨h1,_,h3⟩|⟨h1,_⟩
 exact⟨h3,h1⟩;rcases dX c s with⟨h2,_⟩|⟨a,b,h2,_,_⟩
 unfold ew at h1;rw[h2]at h1;simp at h1;exact absurd (by rw[h2];simp) h
theorem sq{c:UInt8}(hc:cd c=false){s:List UInt8}(h:s.all cd=true):c∉s:=fun hm=>by
 rw[List.all_eq_true]at h;rw[h c hm]at hc;cases hc
theorem ny(n:Nat):(44:UInt8)∉Lib.decDigits n:=sq (by decide) (bX n).1
theorem so(n:Nat):(45:UInt8)∉Lib.decDigits n:=sq (by decide) (bX n).1
theorem pP(g:Rn):(44:UInt8)∉lL g:=by
 rw[lY];split;rw[List.mem_append,List.mem_cons];rintro(h|h|h);exact ny _ h;cases h
 exact ny _ h;exact ny _
theorem oo:∀G:List Rn,G≠[]→Lib.split (js G) [44]=G.map lL
 |[],h=>absurd rfl h
 |[g],_=>by rw[js,kj (pP g)];rfl
 |g::q::r,_=>by
  rw[js,iX (pP g) (np _ (pP g)),oo (q::r) (by simp)];rfl
theorem zz(g:Rn):nX (lL g)=some (wF g):=by
 have d1:=eM g.1;have d2:=eM (g.1+g.2);unfold nX cA;rw[lY];split;rename_i hk;obtain⟨c1,c2,c3⟩:=E6 (Lib.decDigits (g.1+g.2)) (so g.1);rw[c1,c2,if_pos c3,if_pos ⟨d1,d2,fun _=>((kg d1 d2).1.2 (by rw[(bX _).2.1,(bX _).2.1];omega))⟩];rfl;rename_i hk;have h0:g.2=0:=by omega
 obtain⟨c1,c2⟩:=GZ (so g.1);rw[c1,if_neg (show¬ew (Lib.decDigits g.1) 45=true from by rw[c2];simp),if_pos ⟨d1,d1,fun h=>by rw[c2]at h;cases h⟩];unfold wF;rw[h0];rfl
theorem vV(a b:Nat):fO (some (Lib.decDigits a)) (Lib.decDigits b)=decide (a+1<b):=by
 have d1:=rZ (eM a);have h:=(kg d1.1 (eM b)).1;rw[d1.2,(bX _).2.1,(bX _).2.1]at h;unfold fO;exact decide_eq_decide.2 h
theorem yJ:∀(G:List Rn) (pv:Option (List UInt8)),wD G→(∀g r,G=g::r→fO pv (Lib.decDigits g.1)=true)→rl pv (G.map lL)=some (G.map wF)
 |[],_,_,_=>rfl
 |g::r,pv,hg,hp=>by
  rw[List.map_cons,rl,zz];show(if fO pv (Lib.decDigits g.1)=true then(rl (some (Lib.decDigits (g.1+g.2))) (r.map lL)).map ((Lib.decDigits g.1,Lib.decDigits (g.1+g.2))::·)else none)=_;rw[if_pos (hp g r rfl),yJ r _ (si hg) (fun q r' e=>by
   subst e;rw[vV];exact decide_eq_true hg.1)]
  rfl
theorem vw:∀(G:List Rn) (out:List Int),out.length+(eJ G).length≤500→sT (G.map wF) out=some (out++eJ G)
 |[],out,_=>by rw[eJ,List.append_nil];rfl
 |g::r,out,h=>by
  rw[eJ,List.length_append,pS]at h;rw[List.map_cons,sT];simp only[wF,(bX _).2.1];rw[if_neg (by omega),show g.1+g.2+1-g.1=g.2+1 from by omega];show sT (r.map wF) (out++rp g.1 (g.2+1))=_;rw[vw r _ (by rw[List.length_append,pS];omega),eJ,List.append_assoc]
theorem u9:∀(G:List Rn) (g:Rn),G.getLast?=some g→((g.1+g.2:Nat):Int)∈eJ G
 |[],g,h=>by simp at h
 |[q],g,h=>by
  simp only[List.getLast?_singleton,Option.some.injEq]at h;subst h;rw[eJ,List.mem_append];left;unfold rp;exact List.mem_map.2 ⟨q.2,List.mem_range.2 (by omega),rfl⟩
 |q::b::r,g,h=>by
  rw[List.getLast?_cons_cons]at h;rw[eJ,List.mem_append];exact .inr (u9 (b::r) g h)
theorem CB{G:List Rn}(h:G≠[]):js G≠[45]:=by
 intro e;have key:∃n t,js G=Lib.decDigits n++t:=by
  match G,h with
  |[g],_=>rw[js,lY];split;exact⟨_,_,rfl⟩;exact⟨_,[],by rw[List.append_nil]⟩
  |g::q::r,_=>rw[js,lY];split;exact⟨_,_,List.append_assoc _ _ _⟩;exact⟨_,_,rfl⟩
 obtain⟨n,t,hk⟩:=key;rw[hk]at e;have hh:=vm (fw n) (bX n).1;have h2:((Lib.decDigits n++t).headD 0)=(Lib.decDigits n).headD 0:=by
  cases hd:Lib.decDigits n with
  |nil=>exact absurd hd (fw _)
  |cons a l=>rfl
 rw[←h2,e]at hh;exact absurd hh.1 (by decide)
theorem xr{l:List Int}(h:(cU l).2=0):m3 (cU l).1=(l,0):=by
 unfold cU at h⊢;split at h;cases h
 rename_i h5;rw[if_neg h5];split at h;cases h
 rename_i ho;rw[if_neg ho];split at h;cases h
 rename_i hd;rw[if_neg hd];have ho2:lN l l.length=false:=by simpa using ho
 have hd2:eh l l.length=false:=by simpa using hd
 by_cases hl:l=[];subst hl;rw[if_pos rfl];exact if_pos rfl;rw[if_neg hl];have hm:=ED ho2;obtain⟨G,g1,g2⟩:=yu l (fun x hx=>(hm x hx).1) (As hd2);have hG:G≠[]:=by intro e;subst e;exact hl g2.symm
 have ht:da (l.length+1) l []=js G:=by
  have:=oz G (l.length+1) [] g1 (by rw[g2];omega);rw[g2,if_neg hG]at this;rw[this];rfl
 dsimp only;rw[ht];unfold m3;rw[if_neg (CB hG),oo G hG,yJ G none g1 (fun _ _ _=>rfl)];dsimp only;obtain⟨g,hg⟩:∃g,G.getLast?=some g:=by cases hx:G.getLast? with|none=>exact absurd (List.getLast?_eq_none_iff.1 hx) hG|some g=>exact⟨g,rfl⟩
 have hlast:jr (G.map wF)=Lib.decDigits (g.1+g.2):=by unfold jr;rw[List.getLast?_map,hg];rfl
 have hle:=(hm _ (by rw[←g2];exact u9 G g hg)).2;rw[hlast,if_neg (by
  rw[(kg (eM _) o5.1).2,o5.2,(bX _).2.1];omega),vw G [] (by rw[g2];simp;omega),g2]
 rfl
theorem CC{n:Nat}(h:0<n):Lib.itoa (-(n:Int))=45::Lib.decDigits n:=by unfold Lib.itoa;rw[if_pos (by omega),show(-(n:Int)).natAbs=n from by omega]
theorem CX{n:Nat}(h:0<n):((Lib.decDigits n).headD 0).toNat≠48:=fun e=>by have:=(bX n).2.2 e;omega
theorem C2(n:Int):ib (Lib.itoa n)=true∧jF (Lib.itoa n)=n:=by
 by_cases h:0≤n;obtain⟨k,rfl⟩:∃k:Nat,n=k:=⟨n.toNat,by omega⟩;rw[pX];exact Ai k;obtain⟨k,rfl,hk⟩:∃k:Nat,n=-(k:Int)∧0<k:=⟨n.natAbs,by omega,by omega⟩;rw[CC hk];have hne:=List.length_pos_iff.2 (fw k);constructor;rw[vE (s:=45::Lib.decDigits k) ⟨by rw[List.length_cons];omega,rfl,CX hk⟩];exact eM k;unfold jF;rw[if_pos (show(((45:UInt8)::Lib.decDigits k).headD 0).toNat=45 from rfl)];show-((aY 0 (Lib.decDigits k):Nat):Int)=_;rw[(bX k).2.1]
theorem vh{n:Int}(h:c8 n):y9 (Lib.itoa n) (-9223372036854775808) 9223372036854775807=(n,0):=by
 obtain⟨h2,h3⟩:=C2 n;unfold c8 at h;unfold y9;rw[h3];simp only[h2];simp[AA];omega
structure OkL (l:List Fd):Prop where
 ne:l≠[]
 ok:∀f∈l,oR f
 n:l.length≤64
 len:∀f∈l,f.s.length≤2000
 ln:(aU l).length≤8192
theorem OkL.split{l:List Fd}(h:OkL l):cV (aU l)=(l,0):=w9 h.ne h.ok h.n h.len h.ln
theorem OkL.join{l:List Fd}(h:OkL l):eg l=(aU l,0):=vd h.ok h.n h.len h.ln
theorem OkL.lnF{l:List Fd}(h:OkL l):lnF l=aU l++[10]:=by unfold Go.Proofs.YtgkhfpfjokagfaaGreatDoor.lnF;rw[h.join]
theorem yG(n:Nat):eQ n≠10:=by
 have h:eQ n∈(0:UInt8)::iI:=by
  unfold eQ;rw[List.getD_eq_getElem?_getD];by_cases hn:n<iI.length;rw[List.getElem?_eq_getElem hn];exact List.mem_cons_of_mem _ (List.getElem_mem hn);rw[List.getElem?_eq_none (by omega)];exact List.mem_cons_self
 exact(show∀x∈(0:UInt8)::iI,x≠10 by decide) _ h
theorem EY(c:UInt8):dy c≠10:=by
 unfold dy
 repeat' split
 all_goals decide
theorem uW{c:UInt8}(h:bU c=true):c≠10:=by
 rintro rfl;revert h;decide
theorem GW(c:UInt8):(10:UInt8)∉aW c:=by
 unfold aW;split;rename_i h;intro hm;exact uW h (List.mem_singleton.1 hm).symm;split;intro hm;simp only[List.mem_cons,List.not_mem_nil,or_false]at hm;rcases hm with h|h
 exact absurd h (by decide);exact EY c h.symm;intro hm;simp only[List.mem_cons,List.not_mem_nil,or_false]at hm;rcases hm with h|h|h|h
 exact absurd h (by decide);exact absurd h (by decide);exact yG _ h.symm;exact yG _ h.symm
theorem ES{f:Fd}(h:oR f):(10:UInt8)∉cN f:=by
 unfold cN;split;unfold ed;intro hm;rcases List.mem_cons.1 hm with h1|h1
 exact absurd h1 (by decide);rcases List.mem_append.1 h1 with h2|h2
 obtain⟨c,_,hc⟩:=List.mem_flatMap.1 h2;exact GW c hc;exact absurd (List.mem_singleton.1 h2) (by decide);rename_i hq;have hb:=h (by simpa using hq);obtain⟨_,h2⟩:=j8 hb;exact fun hm=>uW (h2 10 hm).1 rfl
theorem Cz{c:UInt8}:∀l:List (List UInt8),c∈Lib.join l [32]→c=32∨∃s∈l,c∈s
 |[],h=>by rw[Lib.join_nil]at h;cases h
 |a::l,h=>by
  rw[Lib.join_cons]at h;rcases List.mem_append.1 h with h|h
  exact .inr ⟨a,by simp,h⟩;unfold Lib.joinTail at h;obtain⟨t,ht,hc⟩:=List.mem_flatten.1 h;obtain⟨s,hs,rfl⟩:=List.mem_map.1 ht;rcases List.mem_append.1 hc with h|h
  exact .inl (List.mem_singleton.1 h);exact .inr ⟨s,by simp[hs],h⟩
theorem OkL.no10{l:List Fd}(h:OkL l):(10:UInt8)∉aU l:=fun hm=>by
 rcases Cz _ hm with h1|⟨s,hs,hc⟩
 exact absurd h1 (by decide);obtain⟨f,hf,rfl⟩:=List.mem_map.1 hs;exact ES (h.ok f hf) hc
def cB(ls:List (List UInt8)):List UInt8:=(ls.map (·++[10])).flatten
theorem dw(l:List UInt8)(r:List (List UInt8)):cB (l::r)=l++10::cB r:=by unfold cB;simp
theorem uG(a b:List (List UInt8)):cB (a++b)=cB a++cB b:=by unfold cB;simp
theorem uF(ls:List (List UInt8)):ls.length≤(cB ls).length:=by
 induction ls with
 |nil=>simp
 |cons l r ih=>rw[dw];simp only[List.length_append,List.length_cons];omega
theorem rS:∀ls:List (List UInt8),ls≠[]→(∀l∈ls,(10:UInt8)∉l)→Lib.split ((cB ls).take ((cB ls).length-1)) [10]=ls
 |[],h,_=>absurd rfl h
 |[l],_,h=>by
  rw[dw,show cB []=[]from rfl,show(l++(10:UInt8)::[]).length-1=l.length from by simp,List.take_left];exact kj (h l (by simp))
 |l::a::r,_,h=>by
  have ih:=rS (a::r) (by simp) (fun x hx=>h x (by simp[hx]));have hp:0<(cB (a::r)).length:=by have:=uF (a::r);simp only[List.length_cons]at this;omega
  have h0:=h l (by simp);rw[dw];generalize cB (a::r)=t at ih hp;rw[show(l++10::t).length-1=l.length+(1+(t.length-1))from by simp only[List.length_append,List.length_cons];omega,List.take_length_add_append,show 1+(t.length-1)=(t.length-1)+1 from by omega,List.take_succ_cons,
   iX h0 (np _ h0),ih]
theorem lB{ls:List (List UInt8)}(h0:ls≠[])(h:∀l∈ls,(10:UInt8)∉l)(h5:ls.length≤5000)(hl:(cB ls).length≤1048576):iN (cB ls)=(ls,0):=by
 have hp:0<(cB ls).length:=by have:=uF ls;have:=List.length_pos_iff.2 h0;omega
 unfold iN;have hs:[10]<:+cB ls:=by
  obtain⟨r,l,rfl⟩:∃r l,ls=r++[l]:=⟨ls.dropLast,ls.getLast h0,(List.dropLast_concat_getLast h0).symm⟩;exact⟨cB r++l,by rw[uG];unfold cB;simp⟩
 have hs2:Lib.hasSuffix (cB ls) [10]=true:=by unfold Lib.hasSuffix;exact List.isSuffixOf_iff_suffix.2 hs
 rw[if_neg (by omega),if_neg (List.length_pos_iff.1 hp),if_neg (by rw[hs2];simp),rS ls h0 h,if_neg (by omega)]
theorem kv(w:List UInt8)(rest:List (List UInt8))(h:OkL ((w::rest).map fB)):PC Tryz.prog 186 [.t (aU ((w::rest).map fB)),.t w] (.tup [.sv (.sl 1 (bn rest)),.b true]):=by
 refine⟨LC.of_go Tryz.func186 (c:=_) rfl (by kernel_rfl) (by rw[Tryz.ntmps186];simp) rfl rfl (by simp[LO.lt,an,LV.lt,aq]) (by simp) ?_⟩;intro B hA hmd;have hn:=h.n;rw[List.length_map,List.length_cons]at hn;refine .seq (.region rfl (aa (h:=aa (h:=.n0 (.seq (.region rfl (ae (h:=ai (es:=[_]) (fun _=>oZ (aU ((w::rest).map fB))) (h:=?_)))))))));rw[h.split];refine ae (h:=ak (h:=ak (h:=aa (h:=aa (h:=.n0 (.seq (.seq (.region rfl (ae (h:=ah (aC _ _ _ _ _ _) (h:=ae (h:=ae (h:=aF mS (h:=?_))))))))))))));rw[List.length_map,List.length_map,List.length_cons];refine ah (av _ _ _ _ _ _) (h:=aX (h:=ae (h:=ae (h:=aw mR (hj:=fun hg=>⟨by(simp at hg;omega),rfl⟩) (h:=bI dE (h:=aM O9 (h:=ae (h:=ah (cj _ _ _ _ _) (h:=aX (h:=.n0 ?_))))))))));refine aj (ht:=fun hc=>by simp[fB]at hc;omega) (hf:=fun hc=>?_);refine .skip (.seq (.region rfl (aa (h:=.n0 (.seq (.seq (.region rfl (ae (h:=aF mS (h:=?_))))))))));rw[List.length_map,List.length_map,List.length_cons];refine ae (h:=.n0 (.block (.loop (bZ 8 9 1 (h:=?_)))));rw[show([]:List (List SV))=bn ((w::rest).take 0)from rfl];refine ay (σ:=Nat) (fun x=>x≤rest.length+1) (fun x=>[(33,(true,.i (x:Nat))),(8,(true,.ref 0))]) (fun x=>[(0,.rs 9 1 (bn ((w::rest).take x)))]) (fun x=>rest.length+1-x) (0) [(31,_),(32,_)] (Nat.zero_le _) (by repeat (first|exact trivial|refine⟨rfl,?_⟩)) (by repeat (first|exact trivial|refine⟨rfl,?_⟩)) (by repeat (first|exact trivial|refine⟨rfl,?_⟩)) ?_;rintro k hk ih;refine .seq (.region rfl (ah (au _ _ _ _ _ _) (h:=.n0 (.seq ?_))));refine ao (ht:=fun hc2=>?_) (hf:=fun hc2=>?_);have hlt:k<(w::rest).length:=by rw[List.length_cons];omega
 have hx:(((w::rest).map fB).map Fd.c)[((k:Nat):Int).toNat]?=some (fB (w::rest)[k]).c:=by rw[Int.toNat_natCast,List.getElem?_map,List.getElem?_map,List.getElem?_eq_getElem hlt];rfl
 have hst:bn ((w::rest).take (k+1))=bn ((w::rest).take k)++[[.val (.string ⟨(w::rest)[k].toArray⟩)]]:=by rw[List.take_succ_eq_append_getElem hlt];exact jW _ _
 have htl:((w::rest).take k).length≤64:=by rw[List.length_take,List.length_cons];omega
 generalize(w::rest)[k]=s at hx hst;refine .skip (.seq (.block (.seq (.region rfl (aw mR (hj:=fun hg=>⟨by omega,hx⟩) (h:=aR iF (h:=aD wA (h:=ar iF (h:=.n0 (.seq (.seq (.region rfl (af gL (h:=?_))))))))))))));refine ag O4 (h:=.n0 ?_);refine aj (ht:=fun hc3=>by simp[fB]at hc3) (hf:=fun hc3=>?_);refine .skip (.region rfl (ae (h:=af dE (h:=ag O9 (h:=az iL (xs:=[_]) (es:=[_]) (hcs:=CellsOfs.cons (CellsOf.one rfl) CellsOfs.nil) (h:=aO iL (hs:=SrcOk.sl Tryz.underlying95 (by simp)) (hlen:=by rw[bq];simp;omega) (h:=aa (h:=.n0 (.inBlock (.region rfl (aG (h:=ae (h:=.n0 ?_)))))))))))));refine .inLoop ?_;exact bM [2] (b:=0) (fun o h=>by have:=(hA o).1 h;omega) (ih (k+1) (by omega) (by omega)) (by repeat (first|exact trivial|refine⟨rfl,?_⟩)) ⟨by rw[hst];rfl,trivial⟩;obtain rfl:k=rest.length+1:=by omega
 rw[show(w::rest).take (rest.length+1)=w::rest from by rw[←List.length_cons,List.take_length]];refine LGo.frz 0 (h:=.exit rfl (.seq (.region rfl (ae (h:=gm ze (ha:=fun _=>⟨by omega,by rw[bq,List.length_cons];omega⟩) (h:=aa (h:=aa (h:=.n0 ?_))))))));exact LGo.ret (aI Tryz.results186 hA hmd)
theorem ja(ns:List Int)(h:∀n∈ns,c8 n)(hl:ns.length≤1000):PC Tryz.prog 187 [.sv (.sl 1 (bn (ns.map Lib.itoa)))] (.tup [.sv (.sl 1 (ic .i64 ns)),.b true]):=by
 refine⟨LC.of_go Tryz.func187 (c:=_) rfl (by kernel_rfl) (by rw[Tryz.ntmps187];simp) rfl rfl (by simp[LO.lt,an,LV.lt,aq]) (by simp) ?_⟩;intro B hA hmd;refine .seq (.region rfl (aa (h:=aa (h:=.n0 (.seq (.region rfl (aa (h:=.n0 (.seq (.seq (.region rfl (ae (h:=aF pc (h:=?_))))))))))))));rw[bq,List.length_map];refine ae (h:=.n0 (.block (.loop (bZ 4 2 1 (h:=?_)))));rw[show([]:List (List SV))=ic .i64 (ns.take 0)from rfl];refine ay (σ:=Nat) (fun x=>x≤ns.length) (fun x=>[(11,(true,.i (x:Nat))),(4,(true,.ref 0))]) (fun x=>[(0,.rs 2 1 (ic .i64 (ns.take x)))]) (fun x=>ns.length-x) (0) [(9,_),(10,_)] (Nat.zero_le _) (by repeat (first|exact trivial|refine⟨rfl,?_⟩)) (by repeat (first|exact trivial|refine⟨rfl,?_⟩)) (by repeat (first|exact trivial|refine⟨rfl,?_⟩)) ?_;rintro k hk ih;refine .seq (.region rfl (ah (au _ _ _ _ _ _) (h:=.n0 (.seq ?_))));refine ao (ht:=fun hc=>?_) (hf:=fun hc=>?_);have hlt:k<ns.length:=by omega
 have hx:(bn (ns.map Lib.itoa))[((k:Nat):Int).toNat]?=some [.val (.string ⟨(Lib.itoa ns[k]).toArray⟩)]:=by unfold bn;rw[Int.toNat_natCast,List.getElem?_map,List.getElem?_map,List.getElem?_eq_getElem hlt];rfl
 have hn:=h _ (List.getElem_mem hlt);have hst:ic .i64 (ns.take (k+1))=ic .i64 (ns.take k)++[[.val (.int .i64 ns[k])]]:=by rw[List.take_succ_eq_append_getElem hlt,←o6]
 have htl:(ns.take k).length≤1000:=by rw[List.length_take];omega
 generalize ns[k]=n at hx hst hn;have hd:=bt hn;refine .skip (.seq (.block (.seq (.region rfl (aw wx (hj:=fun hg=>⟨by omega,hx⟩) (h:=aM O9 (h:=aa (h:=.n0 (.seq (.region rfl (ae (h:=ai (es:=[_,_,_]) (fun _=>FB (Lib.itoa n) (-9223372036854775808) 9223372036854775807 (by omega)) (h:=?_)))))))))))));rw[vh hn];refine ae (h:=ak (h:=ak (h:=aa (h:=aa (h:=.n0 (.seq (.seq (.region rfl (ae (h:=ah (aC _ _ _ _ _ _) (h:=.n0 ?_)))))))))));refine aj (ht:=fun hc2=>by simp at hc2) (hf:=fun hc2=>?_);refine .skip (.region rfl (ae (h:=ae (h:=az Ge (xs:=[_]) (es:=[_]) (hcs:=CellsOfs.cons (CellsOf.one rfl) CellsOfs.nil) (h:=aO Ge (hs:=SrcOk.sl Tryz.underlying82 (by simp)) (hlen:=by rw[bp];simp;omega) (h:=aa (h:=.n0 (.inBlock (.region rfl (aG (h:=ae (h:=.n0 (.inLoop ?_)))))))))))));exact bM [1] (b:=0) (fun o h=>by have:=(hA o).1 h;omega) (ih (k+1) (by omega) (by omega)) (by repeat (first|exact trivial|refine⟨rfl,?_⟩)) ⟨by rw[hst];rfl,trivial⟩;obtain rfl:k=ns.length:=by omega
 rw[List.take_length];refine .exit rfl (.seq (.region rfl (ae (h:=aa (h:=aa (h:=.n0 (LGo.frz 0 (h:=?_))))))));exact LGo.ret (aI Tryz.results187 hA hmd)
section
variable{P:Program}{r:Option Nat}{N:Nat}{D:List Nat}{B:bG}{all:Array Oper}{K:List (Nat×Ct)→St→Prop}
variable{i:Nat}{ops:List Oper}{tr:List (Nat×Ct)}{E:List (Nat×bB)}{L:List (Nat×LO)}{n:Nat}{gn:List (Nat×bB)}
variable{d ty:Nat}{pos:String}{aft:Array Edge}{gd:Option (Nat×Bool)}
theorem mr{f k:Nat}{fo:Operand}{args:Array Operand}{ats:Array TypeId}{es:List bB}{lvs first cap:List LV}{out out':LV}{Hi Hi' Ho Ho':List (Nat×LO)}(ids:List Nat)(hc:LC P f ids.length lvs Hi out Ho k)
 (ho:all[i]?=some ⟨some d,.call {callee:= .value fo,args:=args,argTypes:=ats},ty,pos,aft,gd⟩:=by rfl)(hg:GuardOk (en E) all gd true gn:=by first|exact gN|exact gS rfl rfl)
 (hf:aP (en E) fo=some (true,.fn (.func f) first cap):=by rfl)
 (hx:args.toList.map (aP (en E))=es.map some:=by rfl)(hes:first++es.map bD++cap=aV (sg ids n) lvs:=by rfl)(hnd:ids.Nodup:=by decide)
 (hout:out.mapI (sg ids n)=out':=by rfl)(hHi:(Hi.map fun p=>(sg ids n p.1,p.2.mapI (sg ids n)))=Hi':=by rfl)(hHo:(Ho.map fun p=>(sg ids n p.1,p.2.mapI (sg ids n)))=Ho':=by rfl)
 (hL:KeepL (hp L) Hi':=by repeat (first|exact trivial|refine⟨rfl,?_⟩))
 (h:Reg P r N D B all (i+1) ops ((i,⟨gn++bA (fo::args.toList) ((true,.fn (.func f) first cap)::es),some d,(true,out'),[],Hi',Ho',List.range' n k⟩)::tr) (st ((d,(true,out'))::E) (jA L Hi' Ho') (n+k)) K):
 Reg P r N D B all i (⟨some d,.call {callee:= .value fo,args:=args,argTypes:=ats},ty,pos,aft,gd⟩::ops) tr (st E L n) K:=by
 have hl:(Oper.mk (some d) (.call {callee:= .value fo,args:=args,argTypes:=ats}) ty pos aft gd).op.operands.toList=fo::args.toList:=by simp[Op.operands,Go.Call.operands]
 have h2:=OpC.call (r:=r) (n:=n) (ids:=ids) (k:=k) (Ho:=Ho) hc hnd (o:=⟨some d,.call {callee:= .value fo,args:=args,argTypes:=ats},ty,pos,aft,gd⟩) rfl rfl (first:=first) (cap:=cap) (avs:=es.map bD) hes;rw[hout,hHi,hHo]at h2;refine gM (m:=k) (es:=(true,.fn (.func f) first cap)::es) (rd:=[]) (Hi:=Hi') (Ho:=Ho') (out:=out') ho hg (by rw[hl];exact⟨_,_,rfl,hf,bw hx⟩) (by simp) (fun o x hx=>hL.get hx) h2 ?_;rw[hl];exact h
end
theorem mu{l:List (List UInt8)}(h0:l≠[])(h:∀s∈l,de s=true)(h64:l.length≤64){m:Nat}(hm:∀s∈l,s.length≤m)(h2:m≤2000)(h8:(m+1)*l.length≤8192):OkL (l.map fB):=by
 refine⟨by simpa using h0,fun f hf=>?_,by rwa [List.length_map],fun f hf=>?_,?_⟩;obtain⟨s,hs,rfl⟩:=List.mem_map.1 hf;exact xV (h s hs);obtain⟨s,hs,rfl⟩:=List.mem_map.1 hf;exact Nat.le_trans (hm s hs) h2;have:=kn m (l.map fB) (by
  intro f hf;obtain⟨s,hs,rfl⟩:=List.mem_map.1 hf;exact⟨rfl,hm s hs⟩)
 rw[List.length_map]at this;omega
theorem Dx{w:List UInt8}(hw:de w=true)(hl:w.length≤22){n:Int}(h:c8 n):OkL ([w,Lib.itoa n].map fB):=by
 have hd:=bt h;refine mu (m:=22) (by simp) (fun s hs=>?_) (by simp) (fun s hs=>?_) (by decide) (by simp);simp only[List.mem_cons,List.not_mem_nil,or_false]at hs;rcases hs with rfl|rfl
 exact hw;exact dT;simp only[List.mem_cons,List.not_mem_nil,or_false]at hs;rcases hs with rfl|rfl
 exact hl;exact hd
theorem Cf(a b c n:Int)(hn:c8 n)(ys:List (List SV)):LC Tryz.prog 153 1 [.ptr 0 0,.t (aU ([[115,104,97,114,100,115],Lib.itoa n].map fB)),.i 0] [(0,.bx 24 [.i a,.i b,.i c,.v undef] 3 40 3 ys)] (.b true) [(0,.bx 24 [.i n,.i b,.i c,.v undef] 3 40 3 ys)] 0:=by
 refine LC.of_go Tryz.func153 (c:=_) rfl (by kernel_rfl) (by rw[Tryz.ntmps153];simp) rfl rfl (by simp[LO.lt,an,LV.lt,aq]) (by simp) ?_;intro B hA hmd;have hk2:=Dx (w:=[115,104,97,114,100,115]) (by decide) (by decide) hn;refine LGo.unpack 0 (h:=.seq (.region rfl (aa (h:=.n0 (.seq (.region rfl (aa (h:=.n0 (.seq (.seq (.region rfl (ae (h:=ah (au _ _ _ _ _ _) (h:=?_))))))))))))));refine .n0 ?_;refine aj (ht:=fun hc=>?_) (hf:=fun hc=>by simp at hc);refine .region rfl (az iL (xs:=[_,_,_]) (es:=[_,_,_]) (hcs:=CellsOfs.cons (CellsOf.one rfl) (CellsOfs.cons (CellsOf.one rfl) (CellsOfs.cons (CellsOf.one rfl) CellsOfs.nil))) (h:=ae (h:=aw wx (hj:=fun hg=>⟨by omega,rfl⟩) (h:=aM O9 (h:=aa (h:=.n0 (.seq (.region rfl (ae (h:=ae (h:=ai (es:=[_,_]) (fun _=>kv [115,104,97,114,100,115] [Lib.itoa n] hk2) (h:=ae (h:=ak (h:=?_))))))))))))));refine ak (h:=aa (h:=aa (h:=.n0 (.seq (.seq (.region rfl (ae (h:=bd (h:=ae (h:=ae (h:=ah (au _ _ _ _ _ _) (h:=ae (h:=ae (h:=?_))))))))))))));refine aF pc (h:=ah (aC _ _ _ _ _ _) (h:=aT (h:=aX (h:=ae (h:=ae (h:=ah (bh _ _ _ _ _ _) (h:=ae (h:=ae (h:=aF pc (h:=ah (au _ _ _ _ _ _) (h:=aT (h:=aX (h:=.n0 ?_)))))))))))));refine aj (ht:=fun hc2=>by simp[bn]at hc2) (hf:=fun hc2=>?_);refine .skip (.seq (.region rfl (aa (h:=.n0 (.seq (.seq (.region rfl (ae (h:=ah (bh _ _ _ _ _ _) (h:=.n0 ?_))))))))));refine aj (ht:=fun hc3=>by simp at hc3) (hf:=fun hc3=>?_);refine .skip (.seq (.region rfl (ae (h:=ae (h:=gm ze (ha:=fun _=>⟨by decide,by simp⟩) (h:=ai (es:=[_]) (fun _=>ja [n] (by simpa using hn) (by simp)) (h:=ae (h:=ak (h:=ak (h:=aa (h:=aa (h:=.n0 (.seq ?_)))))))))))));refine .seq (.region rfl (ae (h:=bd (h:=.n0 ?_))));refine aj (ht:=fun hc4=>by simp at hc4) (hf:=fun hc4=>?_);refine .skip (.seq (.seq (.region rfl (ae (h:=.n0 (.block (.seq (.region rfl (ah (av _ _ _ _ _ _) (h:=aa (h:=.n0 ?_)))))))))));refine aj (ht:=fun hc5=>?_) (hf:=fun hc5=>by simp at hc5);refine .region rfl (ae (h:=ae (h:=aw Hq (hj:=fun hg=>⟨by omega,rfl⟩) (h:=aM O2 (h:=aH (h:=af lX (h:=aA O3 (h:=.n0 (.inBlock (.seq (.region rfl (aa (h:=.n0 ?_)))))))))))));refine bJ 0 3 (h:=?_);exact LGo.ret (ax Tryz.results153 hA hmd)
theorem Ce(a b c n:Int)(hn:c8 n)(ys:List (List SV)):LC Tryz.prog 153 1 [.ptr 0 0,.t (aU ([[116,116,108],Lib.itoa n].map fB)),.i 1] [(0,.bx 24 [.i a,.i b,.i c,.v undef] 3 40 3 ys)] (.b true) [(0,.bx 24 [.i a,.i n,.i c,.v undef] 3 40 3 ys)] 0:=by
 refine LC.of_go Tryz.func153 (c:=_) rfl (by kernel_rfl) (by rw[Tryz.ntmps153];simp) rfl rfl (by simp[LO.lt,an,LV.lt,aq]) (by simp) ?_;intro B hA hmd;have hk2:=Dx (w:=[116,116,108]) (by decide) (by decide) hn;refine LGo.unpack 0 (h:=.seq (.region rfl (aa (h:=.n0 (.seq (.region rfl (aa (h:=.n0 (.seq (.seq (.region rfl (ae (h:=ah (au _ _ _ _ _ _) (h:=?_))))))))))))));refine .n0 ?_;refine aj (ht:=fun hc=>?_) (hf:=fun hc=>by simp at hc);refine .region rfl (az iL (xs:=[_,_,_]) (es:=[_,_,_]) (hcs:=CellsOfs.cons (CellsOf.one rfl) (CellsOfs.cons (CellsOf.one rfl) (CellsOfs.cons (CellsOf.one rfl) CellsOfs.nil))) (h:=ae (h:=aw wx (hj:=fun hg=>⟨by omega,rfl⟩) (h:=aM O9 (h:=aa (h:=.n0 (.seq (.region rfl (ae (h:=ae (h:=ai (es:=[_,_]) (fun _=>kv [116,116,108] [Lib.itoa n] hk2) (h:=ae (h:=ak (h:=?_))))))))))))));refine ak (h:=aa (h:=aa (h:=.n0 (.seq (.seq (.region rfl (ae (h:=bd (h:=ae (h:=ae (h:=ah (au _ _ _ _ _ _) (h:=ae (h:=ae (h:=?_))))))))))))));refine aF pc (h:=ah (aC _ _ _ _ _ _) (h:=aT (h:=aX (h:=ae (h:=ae (h:=ah (bh _ _ _ _ _ _) (h:=ae (h:=ae (h:=aF pc (h:=ah (au _ _ _ _ _ _) (h:=aT (h:=aX (h:=.n0 ?_)))))))))))));refine aj (ht:=fun hc2=>by simp[bn]at hc2) (hf:=fun hc2=>?_);refine .skip (.seq (.region rfl (aa (h:=.n0 (.seq (.seq (.region rfl (ae (h:=ah (bh _ _ _ _ _ _) (h:=.n0 ?_))))))))));refine aj (ht:=fun hc3=>by simp at hc3) (hf:=fun hc3=>?_);refine .skip (.seq (.region rfl (ae (h:=ae (h:=gm ze (ha:=fun _=>⟨by decide,by simp⟩) (h:=ai (es:=[_]) (fun _=>ja [n] (by simpa using hn) (by simp)) (h:=ae (h:=ak (h:=ak (h:=aa (h:=aa (h:=.n0 (.seq ?_)))))))))))));refine .seq (.region rfl (ae (h:=bd (h:=.n0 ?_))));refine aj (ht:=fun hc4=>by simp at hc4) (hf:=fun hc4=>?_);refine .skip (.seq (.seq (.region rfl (ae (h:=.n0 (.block (.seq (.region rfl (ah (av _ _ _ _ _ _) (h:=aa (h:=.n0 ?_)))))))))));refine aj (ht:=fun hc5=>by simp at hc5) (hf:=fun hc5=>?_);refine .seq (.region rfl (ah (av _ _ _ _ _ _) (h:=aa (h:=.n0 ?_))));refine aj (ht:=fun hc6=>?_) (hf:=fun hc6=>by simp at hc6);refine .region rfl (ae (h:=ae (h:=aw Hq (hj:=fun hg=>⟨by omega,rfl⟩) (h:=aM O2 (h:=aH (h:=af lW (h:=aA O2 (h:=.n0 (.inBlock (.seq (.region rfl (aa (h:=.n0 ?_)))))))))))));refine bJ 0 3 (h:=?_);exact LGo.ret (ax Tryz.results153 hA hmd)
theorem Cd(a b c n:Int)(hn:c8 n)(ys:List (List SV)):LC Tryz.prog 153 1 [.ptr 0 0,.t (aU ([[115,101,115,115,105,111,110],Lib.itoa n].map fB)),.i 2] [(0,.bx 24 [.i a,.i b,.i c,.v undef] 3 40 3 ys)] (.b true) [(0,.bx 24 [.i a,.i b,.i n,.v undef] 3 40 3 ys)] 0:=by
 refine LC.of_go Tryz.func153 (c:=_) rfl (by kernel_rfl) (by rw[Tryz.ntmps153];simp) rfl rfl (by simp[LO.lt,an,LV.lt,aq]) (by simp) ?_;intro B hA hmd;have hk2:=Dx (w:=[115,101,115,115,105,111,110]) (by decide) (by decide) hn;refine LGo.unpack 0 (h:=.seq (.region rfl (aa (h:=.n0 (.seq (.region rfl (aa (h:=.n0 (.seq (.seq (.region rfl (ae (h:=ah (au _ _ _ _ _ _) (h:=?_))))))))))))));refine .n0 ?_;refine aj (ht:=fun hc=>?_) (hf:=fun hc=>by simp at hc);refine .region rfl (az iL (xs:=[_,_,_]) (es:=[_,_,_]) (hcs:=CellsOfs.cons (CellsOf.one rfl) (CellsOfs.cons (CellsOf.one rfl) (CellsOfs.cons (CellsOf.one rfl) CellsOfs.nil))) (h:=ae (h:=aw wx (hj:=fun hg=>⟨by omega,rfl⟩) (h:=aM O9 (h:=aa (h:=.n0 (.seq (.region rfl (ae (h:=ae (h:=ai (es:=[_,_]) (fun _=>kv [115,101,115,115,105,111,110] [Lib.itoa n] hk2) (h:=ae (h:=ak (h:=?_))))))))))))));refine ak (h:=aa (h:=aa (h:=.n0 (.seq (.seq (.region rfl (ae (h:=bd (h:=ae (h:=ae (h:=ah (au _ _ _ _ _ _) (h:=ae (h:=ae (h:=?_))))))))))))));refine aF pc (h:=ah (aC _ _ _ _ _ _) (h:=aT (h:=aX (h:=ae (h:=ae (h:=ah (bh _ _ _ _ _ _) (h:=ae (h:=ae (h:=aF pc (h:=ah (au _ _ _ _ _ _) (h:=aT (h:=aX (h:=.n0 ?_)))))))))))));refine aj (ht:=fun hc2=>by simp[bn]at hc2) (hf:=fun hc2=>?_);refine .skip (.seq (.region rfl (aa (h:=.n0 (.seq (.seq (.region rfl (ae (h:=ah (bh _ _ _ _ _ _) (h:=.n0 ?_))))))))));refine aj (ht:=fun hc3=>by simp at hc3) (hf:=fun hc3=>?_);refine .skip (.seq (.region rfl (ae (h:=ae (h:=gm ze (ha:=fun _=>⟨by decide,by simp⟩) (h:=ai (es:=[_]) (fun _=>ja [n] (by simpa using hn) (by simp)) (h:=ae (h:=ak (h:=ak (h:=aa (h:=aa (h:=.n0 (.seq ?_)))))))))))));refine .seq (.region rfl (ae (h:=bd (h:=.n0 ?_))));refine aj (ht:=fun hc4=>by simp at hc4) (hf:=fun hc4=>?_);refine .skip (.seq (.seq (.region rfl (ae (h:=.n0 (.block (.seq (.region rfl (ah (av _ _ _ _ _ _) (h:=aa (h:=.n0 ?_)))))))))));refine aj (ht:=fun hc5=>by simp at hc5) (hf:=fun hc5=>?_);refine .seq (.region rfl (ah (av _ _ _ _ _ _) (h:=aa (h:=.n0 ?_))));refine aj (ht:=fun hc6=>by simp at hc6) (hf:=fun hc6=>?_);refine .seq (.region rfl (ah (av _ _ _ _ _ _) (h:=aa (h:=.n0 ?_))));refine aj (ht:=fun hc7=>?_) (hf:=fun hc7=>by simp at hc7);refine .region rfl (ae (h:=ae (h:=aw Hq (hj:=fun hg=>⟨by omega,rfl⟩) (h:=aM O2 (h:=aH (h:=af lU (h:=aA O2 (h:=.n0 (.inBlock (.seq (.region rfl (aa (h:=.n0 ?_)))))))))))));refine bJ 0 3 (h:=?_);exact LGo.ret (ax Tryz.results153 hA hmd)
def mT(x:VnS):List (List UInt8):=[115,101,99,116,105,111,110]::x.name::Lib.itoa x.queue::x.rows.map Lib.itoa
structure F6 (x:VnS):Prop where
 name:de x.name=true
 nl:x.name.length≤100
 rows:x.rows.length≤20
 rs:∀n∈x.rows,c8 n
 q:c8 x.queue
theorem yj{x:VnS}(h:F6 x):OkL ((mT x).map fB):=by
 have h3:=h.rows;refine mu (m:=100) (by simp[mT]) (fun s hs=>?_) (by simp[mT];omega) (fun s hs=>?_) (by decide) (by simp[mT];omega);unfold mT at hs;simp only[List.mem_cons]at hs;rcases hs with rfl|rfl|rfl|hs
 decide;exact h.name;exact dT;obtain⟨n,_,rfl⟩:=List.mem_map.1 hs;exact dT;unfold mT at hs;simp only[List.mem_cons]at hs;rcases hs with rfl|rfl|rfl|hs
 decide;exact h.nl;have:=bt h.q;omega;have:=kq h.rs s hs;omega
theorem Cc(a b c i:Int)(hi:3≤i)(z:VnS)(hz:F6 z)(ys:List (List SV))(hys:∀e∈ys,e.length=3)(hyl:ys.length≤1000):LC Tryz.prog 153 1 [.ptr 0 0,.t (aU ((mT z).map fB)),.i i] [(0,.bx 24 [.i a,.i b,.i c,.v undef] 3 40 3 ys)] (.b true) [(0,.bx 24 [.i a,.i b,.i c,.v undef] 3 40 3 (ys++[z.c]))] 0:=by
 refine LC.of_go Tryz.func153 (c:=_) rfl (by kernel_rfl) (by rw[Tryz.ntmps153];simp) rfl rfl (by simp[LO.lt,an,LV.lt,aq]) (by simp) ?_;intro B hA hmd;have hk2:=yj hz;have hzr:=hz.rows;refine LGo.unpack 0 (h:=.seq (.region rfl (aa (h:=.n0 (.seq (.region rfl (aa (h:=.n0 (.seq (.seq (.region rfl (ae (h:=ah (au _ _ _ _ _ _) (h:=?_))))))))))))));refine .n0 ?_;refine aj (ht:=fun hc=>by simp at hc;omega) (hf:=fun hc=>?_);refine .skip (.seq (.region rfl (ae (h:=ae (h:=ai (es:=[_,_]) (fun _=>kv [115,101,99,116,105,111,110] (z.name::Lib.itoa z.queue::z.rows.map Lib.itoa) hk2) (h:=ae (h:=ak (h:=ak (h:=aa (h:=aa (h:=.n0 (.seq (.seq ?_)))))))))))));refine .region rfl (ae (h:=bd (h:=ae (h:=ae (h:=ah (au _ _ _ _ _ _) (h:=ae (h:=ae (h:=aF pc (h:=ah (aC _ _ _ _ _ _) (h:=aT (h:=aX (h:=ae (h:=ae (h:=?_))))))))))))));refine ah (bh _ _ _ _ _ _) (h:=ae (h:=ae (h:=aF pc (h:=ah (au _ _ _ _ _ _) (h:=aT (h:=aX (h:=.n0 ?_)))))));refine aj (ht:=fun hc2=>by simp[bn]at hc2;omega) (hf:=fun hc2=>?_);refine .skip (.seq (.region rfl (aa (h:=.n0 (.seq (.seq (.region rfl (ae (h:=ah (bh _ _ _ _ _ _) (h:=.n0 ?_))))))))));refine aj (ht:=fun hc3=>?_) (hf:=fun hc3=>by simp at hc3;omega);refine .region rfl (aa (h:=.n0 (.seq (.region rfl (ae (h:=ae (h:=gm ze (ha:=fun _=>⟨by decide,by simp[bn];omega⟩) (h:=ai (es:=[_]) (fun _=>ja (z.queue::z.rows) (by intro n hn;rcases List.mem_cons.1 hn with rfl|h;exact hz.q;exact hz.rs n h) (by simp;omega)) (h:=ae (h:=ak (h:=ak (h:=aa (h:=aa (h:=?_))))))))))))));refine .n0 (.seq (.seq (.region rfl (ae (h:=bd (h:=.n0 ?_))))));refine aj (ht:=fun hc4=>by simp at hc4) (hf:=fun hc4=>?_);refine .skip (.seq (.seq (.region rfl (ae (h:=.n0 (.block (.seq (.region rfl (ah (av _ _ _ _ _ _) (h:=aa (h:=.n0 ?_)))))))))));refine aj (ht:=fun hc5=>by simp at hc5;omega) (hf:=fun hc5=>?_);refine .seq (.region rfl (ah (av _ _ _ _ _ _) (h:=aa (h:=.n0 ?_))));refine aj (ht:=fun hc6=>by simp at hc6;omega) (hf:=fun hc6=>?_);refine .seq (.region rfl (ah (av _ _ _ _ _ _) (h:=aa (h:=.n0 ?_))));refine aj (ht:=fun hc7=>by simp at hc7;omega) (hf:=fun hc7=>?_);refine .seq (.region rfl (ae (h:=aw wx (hj:=fun hg=>⟨by omega,rfl⟩) (h:=aM O9 (h:=ae (h:=aw Hq (hj:=fun hg=>⟨by omega,rfl⟩) (h:=aM O2 (h:=br Gc (is:=[0,2]) (xs:=[_,_]) (es:=[_,_]) (h:=aD DF (h:=ar rj (h:=Reg.nil ⟨fun _=>⟨aQ,by rfl,by rfl⟩,.seq (.seq ?_)⟩)))))))))));refine .region rfl (ae (h:=gm IM (ha:=fun _=>⟨by decide,by rw[bp];simp;omega⟩) (h:=?_)));rw[show(ic .i64 (z.queue::z.rows)).drop (Int.toNat 1)=ic .i64 z.rows from rfl];refine aF Jb (h:=?_);rw[bp];refine ae (h:=.n0 (.block (.loop (aS 2 1 3 1 (h:=?_)))));rw[show([]:List (List SV))=ic .i64 (z.rows.take 0)from rfl];refine ay (σ:=Nat) (fun x=>x≤z.rows.length) (fun x=>[(69,(true,.i (x:Nat)))]) (fun x=>[(0,.box 24 [.i a,.i b,.i c,.ref 1]),(1,.rs 40 3 ys),(2,.bx 40 [.t z.name,.v undef,.i z.queue] 1 3 1 (ic .i64 (z.rows.take x)))]) (fun x=>z.rows.length-x) (0) [(0,_),(12,_),(67,_),(68,_)] (Nat.zero_le _) (by repeat (first|exact trivial|refine⟨rfl,?_⟩)) (by repeat (first|exact trivial|refine⟨rfl,?_⟩)) (by repeat (first|exact trivial|refine⟨rfl,?_⟩)) ?_;rintro j hj ih;refine .seq (.region rfl (ah (au _ _ _ _ _ _) (h:=.n0 (.seq ?_))));refine ao (ht:=fun hc8=>?_) (hf:=fun hc8=>?_);have hltj:j<z.rows.length:=by omega
 have hx2:=wv (l:=z.rows) hltj;have hst:ic .i64 (z.rows.take (j+1))=ic .i64 (z.rows.take j)++[[.val (.int .i64 z.rows[j])]]:=by rw[List.take_succ_eq_append_getElem hltj,←o6]
 have htl:(z.rows.take j).length≤20:=by rw[List.length_take];omega
 generalize z.rows[j]=n at hx2 hst;refine LGo.unpack 2 (h:=.skip (.seq (.block (.seq (.region rfl (aw Hq (hj:=fun hg=>⟨by omega,hx2⟩) (h:=aM O2 (h:=aa (h:=.n0 (.region rfl (af ej (h:=ag gP (h:=ae (h:=?_))))))))))))));refine az fa (xs:=[_]) (es:=[_]) (hcs:=CellsOfs.cons (CellsOf.one rfl) CellsOfs.nil) (h:=aO fa (hs:=SrcOk.sl Tryz.underlying38 (by simp)) (hlen:=by rw[bp];simp;omega) (h:=af ej (h:=aA gP (h:=.n0 (.inBlock (.region rfl (aG (h:=ae (h:=.n0 (.inLoop (bJ 2 1 (h:=?_))))))))))));exact LGo.next _ (fun o h=>by have:=(hA o).1 h;omega) (by omega) (ih (j+1) (by omega) (by omega)) (by repeat (first|exact trivial|refine⟨rfl,?_⟩)) ⟨rfl,rfl,by rw[hst];rfl,trivial⟩;obtain rfl:j=z.rows.length:=by omega
 rw[List.take_length];refine LGo.frzBx 2 (h:=.exit rfl (.region rfl (ae (h:=ae (h:=aH (h:=af cG (h:=ag kC (h:=aB rj (h:=az wK (xs:=[_]) (es:=[_]) (hcs:=CellsOfs.cons (CellsOf.agg rfl) CellsOfs.nil) (h:=aO wK (hs:=SrcOk.sl Tryz.underlying22 (by simp)) (hlen:=by simp;omega) (h:=aH (h:=af cG (h:=aA kC (h:=?_))))))))))))));refine Reg.nil ⟨fun _=>⟨aQ,by rfl,by rfl⟩,.inBlock (.seq (.region rfl (aa (h:=.n0 (bJ 0 3 (h:=?_))))))⟩;exact LGo.ret (ax Tryz.results153 hA hmd)
def oK(v:Ven):List (List Fd):=[[115,104,97,114,100,115],Lib.itoa v.shards].map fB::[[116,116,108],Lib.itoa v.ttl].map fB::[[115,101,115,115,105,111,110],Lib.itoa v.session].map fB::v.secs.map fun x=>(mT x).map fB
theorem uu(l:List (List UInt8)):aU (l.map fB)=Lib.join l [32]:=by
 unfold aU;rw[List.map_map,show(cN∘fB)=id from rfl,List.map_id]
theorem pO(v:Ven):cC v=cB ((oK v).map aU):=by
 have e:(oK v).map aU=aU ([[115,104,97,114,100,115],Lib.itoa v.shards].map fB)::aU ([[116,116,108],Lib.itoa v.ttl].map fB)::aU ([[115,101,115,115,105,111,110],Lib.itoa v.session].map fB)::(v.secs.map fun x=>aU ((mT x).map fB)):=by
  unfold oK;show aU _::aU _::aU _::List.map aU (List.map (fun x=>(mT x).map fB) v.secs)=_;rw[List.map_map];rfl
 have e2:cB (v.secs.map fun x=>aU ((mT x).map fB))=(v.secs.map oN).flatten:=by
  unfold cB;rw[List.map_map];congr 1;refine List.map_congr_left fun x _=>?_;show aU ((mT x).map fB)++[10]=_;rw[uu];rfl
 rw[e,dw,dw,dw,uu,uu,uu,e2];unfold cC oU;simp
structure DM (v:Ven):Prop where
 n1:c8 v.shards
 n2:c8 v.ttl
 n3:c8 v.session
 vl:v.secs.length≤10
 vs:∀x∈v.secs,F6 x
theorem yd{v:Ven}(h:DM v):∀l∈oK v,OkL l:=by
 intro l hl;unfold oK at hl;simp only[List.mem_cons]at hl;rcases hl with rfl|rfl|rfl|hl
 exact Dx (by decide) (by decide) h.n1;exact Dx (by decide) (by decide) h.n2;exact Dx (by decide) (by decide) h.n3;obtain⟨x,hx,rfl⟩:=List.mem_map.1 hl;exact yj (h.vs x hx)
def iK(b:Prop)[Decidable b](n:Int):Int:=if b then n else 0
theorem Co(v:Ven)(h:DM v)(h0:(cm v).2=0)(hl:(cC v).length≤10000):PC Tryz.prog 103 [.t (cC v)] (.tup [.agg (v.c.map LV.sv),.i 0,.i 0]):=by
 refine⟨LC.of_go Tryz.func103 (c:=_) rfl (by kernel_rfl) (by rw[Tryz.ntmps103];simp) rfl rfl (by simp[LO.lt,an,LV.lt,aq]) (by simp) ?_⟩;intro B hA hmd;rw[pO]at hl⊢;obtain⟨n1,n2,n3,vl,vs⟩:=id h;have hok:=yd h;have hLl:(oK v).length=v.secs.length+3:=by unfold oK;simp
 obtain⟨LS,hLS⟩:∃L,(oK v).map aU=L:=⟨_,rfl⟩;have hln:LS.length=v.secs.length+3:=by rw[←hLS,List.length_map,hLl]
 have hlW:iN (cB LS)=(LS,0):=lB (by intro h;rw[h]at hln;simp at hln) (by
  intro l hm;rw[←hLS]at hm;obtain⟨f,hf,rfl⟩:=List.mem_map.1 hm;exact(hok f hf).no10) (by omega) (by rw[←hLS];omega)
 have hx0:LS[0]?=some (aU ([[115,104,97,114,100,115],Lib.itoa v.shards].map fB)):=by rw[←hLS];rfl
 have hx1:LS[1]?=some (aU ([[116,116,108],Lib.itoa v.ttl].map fB)):=by rw[←hLS];rfl
 have hx2:LS[2]?=some (aU ([[115,101,115,115,105,111,110],Lib.itoa v.session].map fB)):=by rw[←hLS];rfl
 have hxs:∀j (hj:j<v.secs.length),LS[j+3]?=some (aU ((mT v.secs[j]).map fB)):=fun j hj=>by
  rw[←hLS];unfold oK;simp[hj]
 rw[hLS]at hl⊢;clear hLS;have hxT:∀k s,LS[k]?=some s→(bn LS)[((k:Nat):Int).toNat]?=some [.val (.string ⟨s.toArray⟩)]:=fun k s hs=>by unfold bn;rw[Int.toNat_natCast,List.getElem?_map,hs];rfl
 refine .seq (.region rfl (aD ID (h:=aa (h:=aa (h:=.n0 (aS 0 3 40 3 (h:=.seq (.region rfl (ae (h:=ai (es:=[_]) (fun _=>pU (cB LS) (by omega)) (h:=?_)))))))))));rw[hlW];refine ae (h:=ak (h:=ak (h:=aa (h:=aa (h:=.n0 (.seq (.seq (.region rfl (ae (h:=ah (aC _ _ _ _ _ _) (h:=.n0 ?_)))))))))));refine aj (ht:=fun hc=>by simp at hc) (hf:=fun hc=>?_);refine .skip (.seq (.seq (.region rfl (ae (h:=aF pc (h:=?_))))));rw[bq];refine wV (h:=?_);rw[show max (LS.length:Int) 3=((v.secs.length+3:Nat):Int)from by omega];refine ae (h:=.n0 (.block (.loop ?_)));rw[show([]:List (List SV))=(v.secs.take (0-3)).map VnS.c from rfl];refine ay (σ:=Nat) (fun x=>x≤v.secs.length+3) (fun x=>[(21,(true,.i (x:Nat)))]) (fun x=>[(0,.bx 24 [.i (iK (0<x) v.shards),.i (iK (1<x) v.ttl),.i (iK (2<x) v.session),.v undef] 3 40 3 ((v.secs.take (x-3)).map VnS.c))]) (fun x=>v.secs.length+3-x) (0) [(2,_),(5,_),(20,_)] (Nat.zero_le _) (by repeat (first|exact trivial|refine⟨rfl,?_⟩)) (by repeat (first|exact trivial|refine⟨rfl,?_⟩)) (by repeat (first|exact trivial|refine⟨rfl,?_⟩)) ?_;rintro k hk ih;refine .seq (.region rfl (ah (au _ _ _ _ _ _) (h:=.n0 (.seq ?_))));refine ao (ht:=fun hc2=>?_) (hf:=fun hc2=>?_);have hkl:k<v.secs.length+3:=by omega
 refine .skip (.seq (.block (.seq (.region rfl ?_))));rcases(show k=0∨k=1∨k=2∨3≤k from by omega)with rfl|rfl|rfl|hk3
 have hx:=hxT 0 _ hx0;refine ae (h:=aa (h:=.n0 (.seq (.region rfl (ae (h:=ae (h:=aF pc (h:=?_))))))));rw[bq];refine ah (bh _ _ _ _ _ _) (h:=?_);rw[show decide (((0:Nat):Int)≥(LS.length:Int))=false from decide_eq_false (by omega)];refine ae (h:=ae (h:=ae (h:=aw wx (hj:=fun hg=>⟨by(simp at hg;omega),hx⟩) (h:=aM O9 (h:=ae (h:=mr (es:=[_,_,_]) (first:=[]) (cap:=[]) [0] (Cf _ _ _ v.shards n1 _) (hg:=by exact gS (gj:=true) (b:=false) rfl rfl) (h:=bd (h:=aX (h:=.n0 ?_)))))))));refine aj (ht:=fun hc3=>by simp at hc3) (hf:=fun hc3=>?_);refine .skip (.inBlock (.region rfl (aG (h:=ae (h:=.n0 (.inLoop ?_))))));exact LGo.next _ (fun o h=>by have:=(hA o).1 h;omega) (by omega) (ih 1 (by omega) (by omega)) (by repeat (first|exact trivial|refine⟨rfl,?_⟩)) ⟨rfl,trivial⟩;have hx:=hxT 1 _ hx1;refine ae (h:=aa (h:=.n0 (.seq (.region rfl (ae (h:=ae (h:=aF pc (h:=?_))))))));rw[bq];refine ah (bh _ _ _ _ _ _) (h:=?_);rw[show decide (((1:Nat):Int)≥(LS.length:Int))=false from decide_eq_false (by omega)];refine ae (h:=ae (h:=ae (h:=aw wx (hj:=fun hg=>⟨by(simp at hg;omega),hx⟩) (h:=aM O9 (h:=ae (h:=mr (es:=[_,_,_]) (first:=[]) (cap:=[]) [0] (Ce _ _ _ v.ttl n2 _) (hg:=by exact gS (gj:=true) (b:=false) rfl rfl) (h:=bd (h:=aX (h:=.n0 ?_)))))))));refine aj (ht:=fun hc4=>by simp at hc4) (hf:=fun hc4=>?_);refine .skip (.inBlock (.region rfl (aG (h:=ae (h:=.n0 (.inLoop ?_))))));exact LGo.next _ (fun o h=>by have:=(hA o).1 h;omega) (by omega) (ih 2 (by omega) (by omega)) (by repeat (first|exact trivial|refine⟨rfl,?_⟩)) ⟨rfl,trivial⟩;have hx:=hxT 2 _ hx2;refine ae (h:=aa (h:=.n0 (.seq (.region rfl (ae (h:=ae (h:=aF pc (h:=?_))))))));rw[bq];refine ah (bh _ _ _ _ _ _) (h:=?_);rw[show decide (((2:Nat):Int)≥(LS.length:Int))=false from decide_eq_false (by omega)];refine ae (h:=ae (h:=ae (h:=aw wx (hj:=fun hg=>⟨by(simp at hg;omega),hx⟩) (h:=aM O9 (h:=ae (h:=mr (es:=[_,_,_]) (first:=[]) (cap:=[]) [0] (Cd _ _ _ v.session n3 _) (hg:=by exact gS (gj:=true) (b:=false) rfl rfl) (h:=bd (h:=aX (h:=.n0 ?_)))))))));refine aj (ht:=fun hc5=>by simp at hc5) (hf:=fun hc5=>?_);refine .skip (.inBlock (.region rfl (aG (h:=ae (h:=.n0 (.inLoop ?_))))));exact LGo.next _ (fun o h=>by have:=(hA o).1 h;omega) (by omega) (ih 3 (by omega) (by omega)) (by repeat (first|exact trivial|refine⟨rfl,?_⟩)) ⟨rfl,trivial⟩;obtain⟨j,rfl⟩:∃j,k=j+3:=⟨k-3,by omega⟩;have hj:j<v.secs.length:=by omega
 have hx:=hxT (j+3) _ (hxs j hj);have hz:=vs _ (List.getElem_mem hj);have hst:(v.secs.take (j+3+1-3)).map VnS.c=(v.secs.take (j+3-3)).map VnS.c++[v.secs[j].c]:=by rw[show j+3+1-3=j+1 from by omega,show j+3-3=j from by omega,List.take_succ_eq_append_getElem hj,List.map_append];rfl
 generalize v.secs[j]=z at hx hz hst;have htl:((v.secs.take (j+3-3)).map VnS.c).length≤10:=by rw[List.length_map,List.length_take];omega
 have hts:∀e∈(v.secs.take (j+3-3)).map VnS.c,e.length=3:=by
  intro e he;obtain⟨x,_,rfl⟩:=List.mem_map.1 he;rfl
 refine ae (h:=aa (h:=.n0 (.seq (.region rfl (ae (h:=ae (h:=aF pc (h:=?_))))))));rw[bq];refine ah (bh _ _ _ _ _ _) (h:=?_);rw[show decide (((j+3:Nat):Int)≥(LS.length:Int))=false from decide_eq_false (by omega)];refine ae (h:=ae (h:=ae (h:=aw wx (hj:=fun hg=>⟨by(simp at hg;omega),hx⟩) (h:=aM O9 (h:=ae (h:=mr (es:=[_,_,_]) (first:=[]) (cap:=[]) [0] (Cc _ _ _ ((j+3:Nat):Int) (by omega) z hz _ hts (by omega)) (hg:=by exact gS (gj:=true) (b:=false) rfl rfl) (h:=bd (h:=aX (h:=.n0 ?_)))))))));refine aj (ht:=fun hc6=>by simp at hc6) (hf:=fun hc6=>?_);refine .skip (.inBlock (.region rfl (aG (h:=ae (h:=.n0 (.inLoop ?_))))));exact LGo.next _ (fun o h=>by have:=(hA o).1 h;omega) (by omega) (ih (j+3+1) (by omega) (by omega)) (by repeat (first|exact trivial|refine⟨rfl,?_⟩)) ⟨by rw[hst];rfl,trivial⟩;obtain rfl:k=v.secs.length+3:=by omega
 rw[show v.secs.take (v.secs.length+3-3)=v.secs from by rw[Nat.add_sub_cancel,List.take_length],show iK (0<v.secs.length+3) v.shards=v.shards from if_pos (by omega),show iK (1<v.secs.length+3) v.ttl=v.ttl from if_pos (by omega),show iK (2<v.secs.length+3) v.session=v.session from if_pos (by omega)];refine LGo.unpack 0 (h:=.exit rfl (.seq (.seq (.region rfl (aB sM (h:=ir (es:=[_]) (lvs:=[.agg (v.c.map LV.sv)]) (rd:=[(1,.rs 40 3 (v.secs.map VnS.c))]) (fun _=>lE v ⟨by omega,fun x hx=>by have:=(vs x hx).nl;omega⟩) (hrd:=jB rfl) (h:=ae (h:=ak (h:=ak (h:=?_))))))))));rw[h0];refine aa (h:=aa (h:=.n0 (.block (.seq (.region rfl (ae (h:=ah (aC _ _ _ _ _ _) (h:=ae (h:=ae (h:=ah (bh _ _ _ _ _ _) (h:=aT (h:=aa (h:=.n0 ?_)))))))))))));refine aj (ht:=fun hc7=>by simp at hc7) (hf:=fun hc7=>?_);refine .seq (.region rfl (ae (h:=ah (aC _ _ _ _ _ _) (h:=aa (h:=.n0 ?_)))));refine aj (ht:=fun hc8=>by simp at hc8) (hf:=fun hc8=>?_);refine .skip (.inBlock (.seq (.region rfl (aB sM (h:=ar sM (h:=aa (h:=aa (h:=.n0 (bJ 0 3 (h:=LGo.frzBx 0 (h:=?_)))))))))));exact LGo.ret (te Tryz.results103 sM hA hmd)
end Go.Proofs.YtgkhfpfjokagfaaGreatDoor