/- Part of the proof of this claim: walks and laws that it leans on; no condition. -/
import Derived.Test.YtgkhfpfjokagfaaGreatDoorXG3
import Derived.Test.YtgkhfpfjokagfaaGreatDoorRows
import Derived.Test.YtgkhfpfjokagfaaGreatDoorTie
import Derived.LaidMore
import Derived.Lay
import Derived.MakeChecks
import Derived.Lib.LaidTab
import Derived.OpenShut
import Derived.ChangeArms
import Derived.ProofKit
set_option linter.unusedSimpArgs false
set_option linter.unusedVariables false
namespace Go.Proofs.YtgkhfpfjokagfaaGreatDoor
structure Rq where
 kind:Int
 id:Int
 owner:Int
 to:Int
 ses:List UInt8
 tic:List UInt8
 seat:Int
 sec:Int
 n:Int
 gate:Int
instance:Inhabited Rq:=⟨⟨0,0,0,0,[],[],0,0,0,0⟩⟩
def Rq.c(r:Rq):List SV:=[.val (.int .i64 r.kind),.val (.int .u64 r.id),.val (.int .u32 r.owner),.val (.int .u32 r.to),.val (.string ⟨r.ses.toArray⟩),.val (.string ⟨r.tic.toArray⟩),.val (.int .i64 r.seat),.val (.int .i64 r.sec),.val (.int .i64 r.n),.val (.int .i64 r.gate)]
def cR(t:Int):Prop:=-9223372036854775808≤t∧t≤9223372036854775807
structure gU (r:Rq):Prop where
 kind:cR r.kind
 id:0≤r.id∧r.id<18446744073709551616
 owner:0≤r.owner∧r.owner<4294967296
 to:0≤r.to∧r.to<4294967296
 ses:r.ses.length≤maxLen
 tic:r.tic.length≤maxLen
 seat:cR r.seat
 sec:cR r.sec
 n:cR r.n
 gate:cR r.gate
theorem IH:(2,dL.map (Value.int .u16))∈oL:=by simp[oL]
def bQ(k:Int):Int:=if k<0∨14≤k then 0 else dL.getD k.toNat 0
theorem ni(k:Int):0≤bQ k∧bQ k<65536:=by
 unfold bQ;split;omega;have:∀n,0≤dL.getD n 0∧dL.getD n 0<65536:=fun n=>by
  by_cases h:n<14;have key:∀m:Fin 14,0≤dL.getD m.1 0∧dL.getD m.1 0<65536:=by decide
  exact key ⟨n,h⟩;rw[List.getD_eq_getElem?_getD,List.getElem?_eq_none (by simp[dL];omega)];simp
 exact this _
def uw(n:Int):Int:=n%18446744073709551616
theorem s9(n:Int):IntKind.u64.wrap n=uw n:=IntKind.wrap_u64 n
theorem HL(n:Int):0≤uw n∧uw n<18446744073709551616:=by unfold uw;omega
def bY(t:Int):Rule:=if t=1 then⟨t,1,1,9223372036854775807,true⟩else if t=2 then⟨t,1,0,4294967295,true⟩else if t=8 then⟨t,1,0,4294967295,true⟩else if t=3 then⟨t,2,44,44,true⟩else if t=4 then⟨t,2,56,56,true⟩else⟨t,1,0,2147483647,true⟩
theorem mo(a:Int)(h0:0≤a)(h1:a<65536):IntKind.u16.wrap ((BitVec.ofInt IntKind.u16.bits a&&&BitVec.ofInt IntKind.u16.bits 1).toNat)=a%2:=by
 obtain⟨n,rfl⟩:∃n:Nat,a=n:=⟨a.toNat,by omega⟩;have e1:(BitVec.ofInt 16 (n:Int)&&&1#16).toNat=n%2:=by
  rw[BitVec.ofInt_natCast,BitVec.toNat_and];simp only[BitVec.toNat_ofNat,Nat.reducePow,Nat.reduceMod,Nat.and_one_is_mod];omega
 show IntKind.u16.wrap ((BitVec.ofInt 16 (n:Int)&&&BitVec.ofInt 16 1).toNat)=_;rw[show BitVec.ofInt 16 1=1#16 from rfl,e1,IntKind.wrap_u16];omega
def gT(m:Int)(k:Nat):Int:=m/2^k%2
theorem yi(m:Int)(k:Nat)(h:k≤16):m/2^(min (Int.toNat (k:Int)) IntKind.u16.bits)=m/2^k:=by
 rw[Int.toNat_natCast,show IntKind.u16.bits=16 from rfl,Nat.min_eq_left h]
theorem jM(m:Int)(k:Nat)(h0:0≤m)(h1:m<65536):0≤m/2^k∧m/2^k<65536:=by
 have hp:(0:Int)<2^k:=Int.pow_pos (by omega);refine⟨Int.ediv_nonneg h0 (Int.le_of_lt hp),?_⟩;exact Int.lt_of_le_of_lt (Int.ediv_le_self _ h0) h1
theorem wP(k:Int):PC Tryz.prog 158 [.i k] (.v (.int .u16 (bQ k))):=by
 refine⟨LC.of_go Tryz.func158 (c:=_) rfl (by kernel_rfl) (by rw[Tryz.ntmps158];simp) rfl rfl (by simp[LO.lt,an,LV.lt,aq]) (by simp) ?_⟩;intro B hA hmd;refine .seq (.region rfl (aa (h:=.n0 (.seq (.seq (.region rfl (ae (h:=ah (au _ _ _ _ _ _) (h:=ae (h:=ae (h:=ah (bh _ _ _ _ _ _) (h:=aX (h:=.n0 ?_)))))))))))));refine aj (ht:=fun hc=>?_) (hf:=fun hc=>?_);have h:k<0∨14≤k:=by simpa using hc
 rw[show bQ k=0 from if_pos h];refine .seq (.region rfl (aa (h:=.n0 ?_)));exact LGo.ret (ax Tryz.results158 hA hmd);have h:¬(k<0∨14≤k):=by simpa using hc
 rw[show bQ k=dL.getD k.toNat 0 from if_neg h];have h1:0≤k∧k<14:=by omega
 refine .skip (.seq (.region rfl (ae (h:=Dr IX (hj:=fun _=>by omega) (h:=?_)))));refine Dq IV (hm:=IH) (v:= .int .u16 (dL.getD k.toNat 0)) (hc:=fun _=>by rw[Nat.zero_add,Nat.mul_one,List.getElem?_map,List.getD_eq_getElem?_getD,List.getElem?_eq_getElem (show k.toNat<dL.length from by simp[dL];omega)];rfl) (h:=?_);refine aa (h:=.n0 ?_);exact LGo.ret (ax Tryz.results158 hA hmd)
theorem yn(t:Int):PC Tryz.prog 160 [.i t] (.agg ((bY t).c.map LV.sv)):=by
 refine⟨LC.of_go Tryz.func160 (c:=_) rfl (by kernel_rfl) (by rw[Tryz.ntmps160];simp) rfl rfl (by simp[LO.lt,an,LV.lt,aq]) (by simp) ?_⟩;intro B hA hmd;obtain⟨g,e0⟩:∃g,bY t=g:=⟨_,rfl⟩;have e1:=e0;unfold bY at e1;rw[e0];refine .seq (.region rfl (aD ph (h:=.n0 (.seq (.region rfl (ae (h:=br FM (is:=[0,1,3,4]) (xs:=[_,_,_,_]) (es:=[_,_,_,_]) (h:=aD ph (h:=ar ch (h:=.n0 (.seq (.seq (.region rfl ?_)))))))))))));refine ae (h:=.n0 (.block (.seq (.region rfl (ah (av _ _ _ _ _ _) (h:=aa (h:=.n0 ?_)))))));refine ao (ht:=fun hc=>?_) (hf:=fun hc=>?_);rw[if_pos hc]at e1;refine .region rfl (af hJ (h:=aA eP (h:=af eU (h:=aA eP (h:=.n0 (.inBlock (.seq (.region rfl (aB ch (h:=ar ch (h:=.n0 ?_)))))))))));rw[←e1];exact LGo.ret (cM Tryz.results160 ch hA hmd);rw[if_neg hc]at e1;refine .seq (.seq (.region rfl (ah (av _ _ _ _ _ _) (h:=aa (h:=.n0 ?_)))));refine ao (ht:=fun hc2=>?_) (hf:=fun hc2=>?_);rw[if_pos hc2]at e1;refine .skip ?_;refine aj (ht:=fun hc3=>?_) (hf:=fun hc3=>by exact absurd hc2 (by simpa using hc3));refine .region rfl (af eU (h:=aA eP (h:=.n0 (.inBlock (.seq (.region rfl (aB ch (h:=ar ch (h:=.n0 ?_)))))))));rw[←e1];exact LGo.ret (cM Tryz.results160 ch hA hmd);rw[if_neg hc2]at e1;refine .region rfl (ah (av _ _ _ _ _ _) (h:=aa (h:=.n0 ?_)));refine ao (ht:=fun hc4=>?_) (hf:=fun hc4=>?_);rw[if_pos hc4]at e1;refine .region rfl (af eU (h:=aA eP (h:=.n0 (.inBlock (.seq (.region rfl (aB ch (h:=ar ch (h:=.n0 ?_)))))))));rw[←e1];exact LGo.ret (cM Tryz.results160 ch hA hmd);rw[if_neg hc4]at e1;refine .seq (.region rfl (ah (av _ _ _ _ _ _) (h:=aa (h:=.n0 ?_))));refine ao (ht:=fun hc5=>?_) (hf:=fun hc5=>?_);rw[if_pos hc5]at e1;refine .region rfl (af fR (h:=aA O3 (h:=af hJ (h:=aA eP (h:=af eU (h:=aA eP (h:=.n0 (.inBlock (.seq (.region rfl (aB ch (h:=ar ch (h:=.n0 ?_)))))))))))));rw[←e1];exact LGo.ret (cM Tryz.results160 ch hA hmd);rw[if_neg hc5]at e1;refine .seq (.region rfl (ah (av _ _ _ _ _ _) (h:=aa (h:=.n0 ?_))));refine ao (ht:=fun hc6=>?_) (hf:=fun hc6=>?_);rw[if_pos hc6]at e1;refine .region rfl (af fR (h:=aA O3 (h:=af hJ (h:=aA eP (h:=af eU (h:=aA eP (h:=.n0 (.inBlock (.seq (.region rfl (aB ch (h:=ar ch (h:=.n0 ?_)))))))))))));rw[←e1];exact LGo.ret (cM Tryz.results160 ch hA hmd);rw[if_neg hc6]at e1;refine .skip (.inBlock (.seq (.region rfl (aB ch (h:=ar ch (h:=.n0 ?_))))));rw[←e1];exact LGo.ret (cM Tryz.results160 ch hA hmd)
theorem mb(n:Int)(hn:cR n):PC Tryz.prog 195 [.i n] (.tup [.u (uw n),.b (decide (n≥0))]):=by
 refine⟨LC.of_go Tryz.func195 (c:=_) rfl (by kernel_rfl) (by rw[Tryz.ntmps195];simp) rfl rfl (by simp[LO.lt,an,LV.lt,aq]) (by simp) ?_⟩;intro B hA hmd;rw[←s9];refine .seq (.region rfl (aa (h:=aa (h:=.n0 (.seq (.region rfl (ae (h:=dN Tryz.runUnderlying3 Tryz.runUnderlying55 (h:=ae (h:=ah (bh _ _ _ _ _ _) (h:=aa (h:=aa (h:=.n0 ?_)))))))))))));exact LGo.ret (aI Tryz.results195 hA hmd)
theorem BL(n:Int)(h0:0≤n)(h1:n<18446744073709551616):PC Tryz.prog 193 [.u n] (.tup [.u n,.b true]):=by
 refine⟨LC.of_go Tryz.func193 (c:=_) rfl (by kernel_rfl) (by rw[Tryz.ntmps193];simp) rfl rfl (by simp[LO.lt,an,LV.lt,aq]) (by simp) ?_⟩;intro B hA hmd;refine .seq (.region rfl (aa (h:=aa (h:=.n0 (.seq (.region rfl (ae (h:=ae (h:=ah (bh _ _ _ _ _ _) (h:=?_))))))))));rw[show decide (0≤n)=true from decide_eq_true h0];refine aa (h:=aa (h:=.n0 ?_));exact LGo.ret (aI Tryz.results193 hA hmd)
theorem uA(n:Int)(h0:0≤n)(h1:n<4294967296):PC Tryz.prog 194 [.v (.int .u32 n)] (.tup [.u n,.b true]):=by
 refine⟨LC.of_go Tryz.func194 (c:=_) rfl (by kernel_rfl) (by rw[Tryz.ntmps194];simp) rfl rfl (by simp[LO.lt,an,LV.lt,aq]) (by simp) ?_⟩;intro B hA hmd;refine .seq (.region rfl (aa (h:=aa (h:=.n0 (.seq (.region rfl (ae (h:=bS Tryz.runUnderlying43 Tryz.runUnderlying55 (h:=ae (h:=ah (bh _ _ _ _ _ _) (h:=?_)))))))))));rw[show decide (0≤n)=true from decide_eq_true h0];refine aa (h:=aa (h:=.n0 ?_));exact LGo.ret (aI Tryz.results194 hA hmd)
def bz(r:Rq)(t:Int):Fld×Bool:=if t=1 then(⟨t,r.id,[]⟩,true)else if t=2 then(⟨t,r.owner,[]⟩,true)else if t=3 then(⟨t,0,r.ses⟩,true)else if t=4 then(⟨t,0,r.tic⟩,true)
 else if t=5 then(⟨t,uw r.seat,[]⟩,decide (r.seat≥0))else if t=6 then(⟨t,uw r.sec,[]⟩,decide (r.sec≥0))else if t=7 then(⟨t,uw r.n,[]⟩,decide (r.n≥0))else if t=8 then(⟨t,r.to,[]⟩,true)else if t=9 then(⟨t,uw r.gate,[]⟩,decide (r.gate≥0))else(⟨t,0,[]⟩,true)
theorem CO(r:Rq)(hr:gU r)(t:Int):PC Tryz.prog 159 [.agg (r.c.map LV.sv),.i t] (.tup [.agg ((bz r t).1.c.map LV.sv),.b (bz r t).2]):=by
 refine⟨LC.of_go Tryz.func159 (c:=_) rfl (by kernel_rfl) (by rw[Tryz.ntmps159];simp) rfl rfl (by simp[LO.lt,an,LV.lt,aq]) (by simp) ?_⟩;intro B hA hmd;obtain⟨g,e0⟩:∃g,bz r t=g:=⟨_,rfl⟩;have e1:=e0;unfold bz at e1;rw[e0];refine .seq (.region rfl (bg (h:=aD ui (h:=aa (h:=.n0 (.seq (.region rfl (ae (h:=br Il (is:=[0]) (xs:=[_]) (es:=[_]) (h:=aD ui (h:=ar cT (h:=.n0 (.seq ?_)))))))))))));refine .region rfl (aa (h:=.n0 (.seq (.seq (.region rfl (ae (h:=.n0 (.block (.seq (.region rfl (ah (av _ _ _ _ _ _) (h:=aa (h:=.n0 ?_)))))))))))));refine ao (ht:=fun hc=>?_) (hf:=fun hc=>?_);rw[if_pos hc]at e1;refine .region rfl (af wZ (h:=ag eP (h:=ai (es:=[_]) (fun _=>BL r.id hr.id.1 hr.id.2) (h:=ae (h:=ak (h:=ak (h:=af eV (h:=aA eP (h:=aa (h:=.n0 (.inBlock (.seq (.region rfl ?_)))))))))))));refine aB cT (h:=ae (h:=ar cT (h:=aa (h:=.n0 ?_))));rw[←e1];exact LGo.ret (cy Tryz.results159 cT hA hmd);rw[if_neg hc]at e1;refine .seq (.region rfl (ah (av _ _ _ _ _ _) (h:=aa (h:=.n0 ?_))));refine ao (ht:=fun hc2=>?_) (hf:=fun hc2=>?_);rw[if_pos hc2]at e1;refine .region rfl (af BG (h:=ag sL (h:=ai (es:=[_]) (fun _=>uA r.owner hr.owner.1 hr.owner.2) (h:=ae (h:=ak (h:=ak (h:=af eV (h:=aA eP (h:=aa (h:=.n0 (.inBlock (.seq (.region rfl ?_)))))))))))));refine aB cT (h:=ae (h:=ar cT (h:=aa (h:=.n0 ?_))));rw[←e1];exact LGo.ret (cy Tryz.results159 cT hA hmd);rw[if_neg hc2]at e1;refine .seq (.region rfl (ah (av _ _ _ _ _ _) (h:=aa (h:=.n0 ?_))));refine ao (ht:=fun hc3=>?_) (hf:=fun hc3=>?_);rw[if_pos hc3]at e1;refine .region rfl (af pN (h:=ag O9 (h:=af iP (h:=aA O9 (h:=.n0 (.inBlock (.seq (.region rfl (aB cT (h:=ae (h:=ar cT (h:=aa (h:=.n0 ?_)))))))))))));rw[←e1];exact LGo.ret (cy Tryz.results159 cT hA hmd);rw[if_neg hc3]at e1;refine .seq (.region rfl (ah (av _ _ _ _ _ _) (h:=aa (h:=.n0 ?_))));refine ao (ht:=fun hc4=>?_) (hf:=fun hc4=>?_);rw[if_pos hc4]at e1;refine .region rfl (af hM (h:=ag O9 (h:=af iP (h:=aA O9 (h:=.n0 (.inBlock (.seq (.region rfl (aB cT (h:=ae (h:=ar cT (h:=aa (h:=.n0 ?_)))))))))))));rw[←e1];exact LGo.ret (cy Tryz.results159 cT hA hmd);rw[if_neg hc4]at e1;refine .seq (.region rfl (ah (av _ _ _ _ _ _) (h:=aa (h:=.n0 ?_))));refine ao (ht:=fun hc5=>?_) (hf:=fun hc5=>?_);rw[if_pos hc5]at e1;refine .region rfl (af BE (h:=ag O3 (h:=ai (es:=[_]) (fun _=>mb r.seat hr.seat) (h:=ae (h:=ak (h:=ak (h:=af eV (h:=aA eP (h:=aa (h:=.n0 (.inBlock (.seq (.region rfl ?_)))))))))))));refine aB cT (h:=ae (h:=ar cT (h:=aa (h:=.n0 ?_))));rw[←e1];exact LGo.ret (cy Tryz.results159 cT hA hmd);rw[if_neg hc5]at e1;refine .seq (.region rfl (ah (av _ _ _ _ _ _) (h:=aa (h:=.n0 ?_))));refine ao (ht:=fun hc6=>?_) (hf:=fun hc6=>?_);rw[if_pos hc6]at e1;refine .region rfl (af BD (h:=ag O3 (h:=ai (es:=[_]) (fun _=>mb r.sec hr.sec) (h:=ae (h:=ak (h:=ak (h:=af eV (h:=aA eP (h:=aa (h:=.n0 (.inBlock (.seq (.region rfl ?_)))))))))))));refine aB cT (h:=ae (h:=ar cT (h:=aa (h:=.n0 ?_))));rw[←e1];exact LGo.ret (cy Tryz.results159 cT hA hmd);rw[if_neg hc6]at e1;refine .seq (.region rfl (ah (av _ _ _ _ _ _) (h:=aa (h:=.n0 ?_))));refine ao (ht:=fun hc7=>?_) (hf:=fun hc7=>?_);rw[if_pos hc7]at e1;refine .region rfl (af BC (h:=ag O3 (h:=ai (es:=[_]) (fun _=>mb r.n hr.n) (h:=ae (h:=ak (h:=ak (h:=af eV (h:=aA eP (h:=aa (h:=.n0 (.inBlock (.seq (.region rfl ?_)))))))))))));refine aB cT (h:=ae (h:=ar cT (h:=aa (h:=.n0 ?_))));rw[←e1];exact LGo.ret (cy Tryz.results159 cT hA hmd);rw[if_neg hc7]at e1;refine .seq (.region rfl (ah (av _ _ _ _ _ _) (h:=aa (h:=.n0 ?_))));refine ao (ht:=fun hc8=>?_) (hf:=fun hc8=>?_);rw[if_pos hc8]at e1;refine .region rfl (af BF (h:=ag sL (h:=ai (es:=[_]) (fun _=>uA r.to hr.to.1 hr.to.2) (h:=ae (h:=ak (h:=ak (h:=af eV (h:=aA eP (h:=aa (h:=.n0 (.inBlock (.seq (.region rfl ?_)))))))))))));refine aB cT (h:=ae (h:=ar cT (h:=aa (h:=.n0 ?_))));rw[←e1];exact LGo.ret (cy Tryz.results159 cT hA hmd);rw[if_neg hc8]at e1;refine .seq (.region rfl (ah (av _ _ _ _ _ _) (h:=aa (h:=.n0 ?_))));refine ao (ht:=fun hc9=>?_) (hf:=fun hc9=>?_);rw[if_pos hc9]at e1;refine .region rfl (af BB (h:=ag O3 (h:=ai (es:=[_]) (fun _=>mb r.gate hr.gate) (h:=ae (h:=ak (h:=ak (h:=af eV (h:=aA eP (h:=aa (h:=.n0 (.inBlock (.seq (.region rfl ?_)))))))))))));refine aB cT (h:=ae (h:=ar cT (h:=aa (h:=.n0 ?_))));rw[←e1];exact LGo.ret (cy Tryz.results159 cT hA hmd);rw[if_neg hc9]at e1;refine .skip (.inBlock (.seq (.region rfl (aB cT (h:=ae (h:=ar cT (h:=aa (h:=.n0 ?_))))))));rw[←e1];exact LGo.ret (cy Tryz.results159 cT hA hmd)
def jE(x:Rule)(f:Fld)(is:Bool)(e:Int):Int:=if(decide (x.kind=1)&&(((!is)||decide (f.num<x.low))||decide (x.high<f.num)))=true then 7 else if((decide (x.kind=2)&&!decide ((f.txt.length:Int)=x.low))&&decide (e=0))=true then 3 else e
def mU(m:Int)(r:Rq):Nat→Nat→List Fld→Int→List Fld×Int
 |0,_,l,e=>if(!decide (e=0))=true then([],e)else(l,0)
 |n+1,k,l,e=>if gT m k=0 then(if((!decide ((bz r k).1.num=0))||!decide ((bz r k).1.txt=[]))=true then([],2)else mU m r n (k+1) l e)
  else mU m r n (k+1) (l++[(bz r k).1]) (jE (bY k) (bz r k).1 (bz r k).2 e)
def fieldsOf(r:Rq):List Fld×Int:=if bQ r.kind=0 then([],2)else mU (bQ r.kind) r 9 1 [] 0
def gw(r:Rq):Int:=(fieldsOf r).2
theorem xB(r:Rq)(hr:gU r)(t:Int):(bz r t).1.txt.length≤maxLen:=by
 unfold bz;have h1:=hr.ses;have h2:=hr.tic
 (repeat' split)<;>simp[*]
theorem qM(r:Rq)(hr:gU r):PC Tryz.prog 120 [.agg (r.c.map LV.sv)] (.tup [.sv (.sl 3 ((fieldsOf r).1.map Fld.c)),.i (fieldsOf r).2]):=by
 refine⟨LC.of_go Tryz.func120 (c:=_) rfl (by kernel_rfl) (by rw[Tryz.ntmps120];simp) rfl rfl (by simp[LO.lt,an,LV.lt,aq]) (by simp) ?_⟩;intro B hA hmd;obtain⟨g,e0⟩:∃g,fieldsOf r=g:=⟨_,rfl⟩;have e1:=e0;unfold fieldsOf at e1;rw[e0];have hm:=ni r.kind;refine .seq (.region rfl (bg (h:=aa (h:=aa (h:=.n0 (LGo.scope (.seq (.region rfl (af ld (h:=ag O3 (h:=ai (es:=[_]) (fun _=>wP r.kind) (h:=aa (h:=.n0 ?_)))))))))))));refine .seq (.seq (.region rfl (ae (h:=ah (av _ _ _ _ _ _) (h:=.n0 ?_)))));refine ao (ht:=fun hc=>?_) (hf:=fun hc=>?_);rw[if_pos hc]at e1;rw[←e1];refine .seq (.region rfl (aa (h:=aa (h:=.n0 (bP 2 3 (h:=?_))))));exact LGo.ret (aI Tryz.results120 hA hmd);rw[if_neg hc]at e1;generalize bQ r.kind=m at*;refine .skip (.seq (.region rfl (aa (h:=.n0 (.seq (.region rfl (aa (h:=.n0 (.seq (.seq (.region rfl (aa (h:=.n0 ?_)))))))))))));refine .block (.loop (bZ 5 221 3 (h:=?_)));refine ay (σ:=Nat×Nat×List Fld×Int) (fun x=>x.1+x.2.1=10∧1≤x.2.1∧x.2.2.1.length≤x.2.1∧mU m r x.1 x.2.1 x.2.2.1 x.2.2.2=g) (fun x=>[(7,(true,.i (x.2.1:Nat))),(5,(true,.ref 1)),(6,(true,.i x.2.2.2))]) (fun x=>[(0,.box 121 (r.c.map LV.sv)),(1,.rs 221 3 (x.2.2.1.map Fld.c))]) (fun x=>x.1) ((9,1,[],0)) [(1,_),(4,_)] ⟨rfl,Nat.le_refl _,Nat.zero_le _,e1⟩ (by repeat (first|exact trivial|refine⟨rfl,?_⟩)) (by repeat (first|exact trivial|refine⟨rfl,?_⟩)) (by repeat (first|exact trivial|refine⟨rfl,?_⟩)) ?_;rintro⟨fu,k,acc,e⟩ ⟨q1,q2,q3,e1⟩ ih;dsimp only at*;refine .seq (.seq (.region rfl (ae (h:=ah (cb _ _ _ _ _ _) (h:=.n0 ?_)))));refine ao (ht:=fun hc2=>?_) (hf:=fun hc2=>?_);obtain⟨f,rfl⟩:∃f,fu=f+1:=⟨fu-1,by omega⟩;rw[mU]at e1;have hfl:=xB r hr (k:Int);refine .skip (.seq (.block (.seq (.region rfl (aB ct (h:=ae (h:=ai (es:=[_,_]) (fun _=>CO r hr (k:Int)) (h:=ae (h:=ak (h:=?_))))))))));generalize hfx:(bz r (k:Int)).1=fx at*;generalize his:(bz r (k:Int)).2=is at*;refine ak (h:=aD ui (h:=ar cT (h:=aa (h:=.n0 (.seq (.seq (.region rfl (ae (h:=ae (h:=kM (h:=?_)))))))))));rw[yi m k (by omega)];refine ah (jR _ _ _ .u16 _ 1 (mo _ (jM m k hm.1 hm.2).1 (jM m k hm.1 hm.2).2)) (h:=ah (av _ _ _ _ _ _) (h:=.n0 ?_));refine ao (ht:=fun hc3=>?_) (hf:=fun hc3=>?_);rw[if_pos (show gT m k=0 from hc3)]at e1;refine .seq (.seq (.region rfl (af eV (h:=ag eP (h:=ah (aC _ _ _ _ _ _) (h:=ae (h:=af iP (h:=ag O9 (h:=ah (cj _ _ _ _ _) (h:=aX (h:=.n0 ?_)))))))))));refine aj (ht:=fun hc4=>?_) (hf:=fun hc4=>?_);rw[if_pos hc4]at e1;rw[←e1];refine LGo.goto rfl (.seq (.skip (.seq (.region rfl (aa (h:=aa (h:=.n0 (bP 2 3 (h:=?_)))))))));exact LGo.ret (aI Tryz.results120 hA hmd);rw[if_neg (by rw[hc4];simp)]at e1;refine .skip (.exit rfl (.region rfl (ae (h:=aG (h:=aa (h:=.n0 (.inLoop ?_)))))));exact LGo.next _ (fun o h=>by have:=(hA o).1 h;omega) (by omega) (ih (f,k+1,acc,e) ⟨by dsimp only;omega,by dsimp only;omega,by dsimp only;omega,e1⟩ (by dsimp only;omega)) (by repeat (first|exact trivial|refine⟨rfl,?_⟩)) (by repeat (first|exact trivial|refine⟨rfl,?_⟩));rw[if_neg (show¬gT m k=0 from hc3)]at e1;refine .skip (.seq (.region rfl (ae (h:=aB cT (h:=az FR (xs:=[_]) (es:=[_]) (hcs:=CellsOfs.cons (CellsOf.agg rfl) CellsOfs.nil) (h:=aO FR (hs:=SrcOk.sl Tryz.underlying180 (by simp;rfl)) (hlen:=by simp;omega) (h:=aa (h:=.n0 (.seq (.region rfl (ae (h:=ai (es:=[_]) (fun _=>yn (k:Int)) (h:=aD ph (h:=?_))))))))))))));refine ar ch (h:=.n0 (.block (.seq (.region rfl (af fR (h:=ag O3 (h:=ah (av _ _ _ _ _ _) (h:=ae (h:=ae (h:=bd (h:=ae (h:=af eV (h:=ag eP (h:=?_))))))))))))));refine af hJ (h:=ag eP (h:=ah (au _ _ _ _ _ _) (h:=aX (h:=ae (h:=af eV (h:=ag eP (h:=af eU (h:=ag eP (h:=ah (aJ _ _ _ _ _ _) (h:=aX (h:=aT (h:=aa (h:=.n0 ?_)))))))))))));refine aj (ht:=fun hc5=>?_) (hf:=fun hc5=>?_);have he:jE (bY (k:Int)) fx is e=7:=by unfold jE;rw[if_pos hc5]
 refine .region rfl (aa (h:=.n0 (.inBlock (.inBlock (.region rfl (ae (h:=aG (h:=aa (h:=.n0 (.inLoop ?_))))))))));exact bM [0,3] (b:=0) (fun o h=>by have:=(hA o).1 h;omega) (ih (f,k+1,acc++[fx],7) ⟨by dsimp only;omega,by dsimp only;omega,by simp;omega,by rw[←he];exact e1⟩ (by dsimp only;omega)) (by repeat (first|exact trivial|refine⟨rfl,?_⟩)) ⟨rfl,by rw[List.map_append];rfl,trivial⟩;refine .seq (.region rfl (af fR (h:=ag O3 (h:=ah (av _ _ _ _ _ _) (h:=ae (h:=af iP (h:=ag O9 (h:=bC Tryz.runUnderlying9 (h:=dN Tryz.runUnderlying3 Tryz.runUnderlying55 (h:=?_))))))))));rw[show IntKind.u64.wrap (fx.txt.length:Int)=(fx.txt.length:Int)from by rw[IntKind.wrap_u64];unfold maxLen at hfl;omega];refine af hJ (h:=ag eP (h:=ah (aC _ _ _ _ _ _) (h:=aT (h:=ae (h:=ae (h:=ah (av _ _ _ _ _ _) (h:=aT (h:=aa (h:=.n0 ?_)))))))));refine aj (ht:=fun hc6=>?_) (hf:=fun hc6=>?_);have he:jE (bY (k:Int)) fx is e=3:=by unfold jE;rw[if_neg (by rw[hc5];simp),if_pos hc6]
 refine .region rfl (aa (h:=.n0 (.inBlock (.inBlock (.region rfl (ae (h:=aG (h:=aa (h:=.n0 (.inLoop ?_))))))))));exact bM [0,3] (b:=0) (fun o h=>by have:=(hA o).1 h;omega) (ih (f,k+1,acc++[fx],3) ⟨by dsimp only;omega,by dsimp only;omega,by simp;omega,by rw[←he];exact e1⟩ (by dsimp only;omega)) (by repeat (first|exact trivial|refine⟨rfl,?_⟩)) ⟨rfl,by rw[List.map_append];rfl,trivial⟩;have he:jE (bY (k:Int)) fx is e=e:=by unfold jE;rw[if_neg (by rw[hc5];simp),if_neg (by rw[hc6];simp)]
 refine .skip (.inBlock (.inBlock (.region rfl (ae (h:=aG (h:=aa (h:=.n0 (.inLoop ?_))))))));exact bM [0,3] (b:=0) (fun o h=>by have:=(hA o).1 h;omega) (ih (f,k+1,acc++[fx],e) ⟨by dsimp only;omega,by dsimp only;omega,by simp;omega,by rw[←he];exact e1⟩ (by dsimp only;omega)) (by repeat (first|exact trivial|refine⟨rfl,?_⟩)) ⟨rfl,by rw[List.map_append];rfl,trivial⟩;obtain rfl:fu=0:=by omega
 rw[mU]at e1;refine .exit rfl (.seq (.seq (.region rfl (ae (h:=ah (aC _ _ _ _ _ _) (h:=.n0 ?_))))));refine aj (ht:=fun hc7=>?_) (hf:=fun hc7=>?_);rw[if_pos hc7]at e1;rw[←e1];refine .seq (.region rfl (ae (h:=aa (h:=aa (h:=.n0 (bP 2 3 (h:=?_)))))));exact LGo.ret (aI Tryz.results120 hA hmd);rw[if_neg (by rw[hc7];simp)]at e1;rw[←e1];refine .skip (.seq (.seq (.region rfl (ae (h:=aa (h:=aa (h:=.n0 (dG 2 (h:=?_)))))))));exact LGo.ret (aI Tryz.results120 hA hmd)
theorem C7(r:Rq)(hr:gU r):PC Tryz.prog 117 [.agg (r.c.map LV.sv)] (.i (gw r)):=by
 refine⟨LC.of_go Tryz.func117 (c:=_) rfl (by kernel_rfl) (by rw[Tryz.ntmps117];simp) rfl rfl (by simp[LO.lt,an,LV.lt,aq]) (by simp) ?_⟩;intro B hA hmd;unfold gw;refine .seq (.region rfl (bg (h:=aa (h:=.n0 (.seq (.region rfl (aB ct (h:=ai (es:=[_]) (fun _=>qM r hr) (h:=ae (h:=ak (h:=ak (h:=aa (h:=aa (h:=?_))))))))))))));refine .n0 (.seq (.region rfl (ae (h:=aa (h:=.n0 ?_)))));exact LGo.ret (ax Tryz.results117 hA hmd)
def sO(m:Int):Nat→Nat→List Rule→List Rule
 |0,_,l=>l
 |n+1,k,l=>if gT m k=1 then sO m n (k+1) (l++[bY k])else sO m n (k+1) l
def fN(k:Int):List Rule×Int:=if bQ k=0 then([],2)else(sO (bQ k) 16 0 [],0)
theorem B6(kd:Int):PC Tryz.prog 121 [.i kd] (.tup [.sv (.sl 5 ((fN kd).1.map Rule.c)),.i (fN kd).2]):=by
 refine⟨LC.of_go Tryz.func121 (c:=_) rfl (by kernel_rfl) (by rw[Tryz.ntmps121];simp) rfl rfl (by simp[LO.lt,an,LV.lt,aq]) (by simp) ?_⟩;intro B hA hmd;obtain⟨g,e0⟩:∃g,fN kd=g:=⟨_,rfl⟩;have e1:=e0;unfold fN at e1;rw[e0];have hm:=ni kd;refine .seq (.region rfl (aa (h:=aa (h:=.n0 (.seq (.region rfl (ae (h:=ai (es:=[_]) (fun _=>wP kd) (h:=aa (h:=.n0 (.seq (.seq (.region rfl ?_)))))))))))));refine ae (h:=ah (av _ _ _ _ _ _) (h:=.n0 ?_));refine ao (ht:=fun hc=>?_) (hf:=fun hc=>?_);rw[if_pos hc]at e1;rw[←e1];refine .seq (.region rfl (aa (h:=aa (h:=.n0 (bP 2 5 (h:=?_))))));exact LGo.ret (aI Tryz.results121 hA hmd);rw[if_neg hc]at e1;generalize bQ kd=m at*;refine .skip (.seq (.region rfl (aa (h:=.n0 (.seq (.seq (.region rfl (ae (h:=.n0 (.block (.loop (bZ 5 225 5 (h:=?_)))))))))))));refine ay (σ:=Nat×Nat×List Rule) (fun x=>x.1+x.2.1=16∧x.2.2.length≤x.2.1∧(sO m x.1 x.2.1 x.2.2,(0:Int))=g) (fun x=>[(11,(true,.i (x.2.1:Nat))),(5,(true,.ref 0))]) (fun x=>[(0,.rs 225 5 (x.2.2.map Rule.c))]) (fun x=>x.1) ((16,0,[])) [(4,_)] ⟨rfl,Nat.le_refl _,e1⟩ (by repeat (first|exact trivial|refine⟨rfl,?_⟩)) (by repeat (first|exact trivial|refine⟨rfl,?_⟩)) (by repeat (first|exact trivial|refine⟨rfl,?_⟩)) ?_;rintro⟨fu,k,acc⟩ ⟨q1,q2,e1⟩ ih;dsimp only at*;refine .seq (.region rfl (ah (au _ _ _ _ _ _) (h:=.n0 (.seq ?_))));refine ao (ht:=fun hc2=>?_) (hf:=fun hc2=>?_);obtain⟨f,rfl⟩:∃f,fu=f+1:=⟨fu-1,by omega⟩;rw[sO]at e1;refine .skip (.seq (.block (.seq (.region rfl (ae (h:=aa (h:=.n0 (.seq (.region rfl (ae (h:=ae (h:=kM (h:=?_)))))))))))));rw[yi m k (by omega)];refine ah (jR _ _ _ .u16 _ 1 (mo _ (jM m k hm.1 hm.2).1 (jM m k hm.1 hm.2).2)) (h:=ah (av _ _ _ _ _ _) (h:=.n0 ?_));refine ao (ht:=fun hc3=>?_) (hf:=fun hc3=>?_);rw[if_pos (show gT m k=1 from hc3)]at e1;refine .region rfl (ae (h:=ae (h:=ai (es:=[_]) (fun _=>yn (k:Int)) (h:=az FQ (xs:=[_]) (es:=[_]) (hcs:=CellsOfs.cons (CellsOf.agg rfl) CellsOfs.nil) (h:=aO FQ (hs:=SrcOk.sl Tryz.underlying183 (by simp;rfl)) (hlen:=by simp;omega) (h:=aa (h:=.n0 (.inBlock (.region rfl (aG (h:=ae (h:=.n0 (.inLoop ?_)))))))))))));exact bM [1] (b:=0) (fun o h=>by have:=(hA o).1 h;omega) (ih (f,k+1,acc++[bY k]) ⟨by dsimp only;omega,by simp;omega,e1⟩ (by dsimp only;omega)) (by repeat (first|exact trivial|refine⟨rfl,?_⟩)) ⟨by rw[List.map_append];rfl,trivial⟩;rw[if_neg (show¬gT m k=1 from hc3)]at e1;refine .skip (.inBlock (.region rfl (aG (h:=ae (h:=.n0 (.inLoop ?_))))));exact LGo.next _ (fun o h=>by have:=(hA o).1 h;omega) (by omega) (ih (f,k+1,acc) ⟨by dsimp only;omega,by dsimp only;omega,e1⟩ (by dsimp only;omega)) (by repeat (first|exact trivial|refine⟨rfl,?_⟩)) (by repeat (first|exact trivial|refine⟨rfl,?_⟩));obtain rfl:fu=0:=by omega
 rw[sO]at e1;rw[←e1];refine .exit rfl (.seq (.region rfl (ae (h:=aa (h:=aa (h:=.n0 (dG 2 (h:=?_))))))));exact LGo.ret (aI Tryz.results121 hA hmd)
def ur:List (List UInt8):=[[],[111,112,101,110],[104,111,108,100],[98,108,111,99,107],[114,101,108,101,97,115,101],[98,117,121],[116,114,97,110,115,102,101,114],[114,101,102,117,110,100],[114,101,118,111,107,101],[118,97,108,105,100,97,116,101],[106,111,105,110],[108,101,97,118,101],[],[101,110,116,101,114]]
def nT(k:Int):List UInt8:=if k<1∨13<k then[]else ur.getD k.toNat []
theorem Cy{k:Int}(h:¬(k<1∨13<k)):(bn ur)[k.toNat]?=some [.val (.string ⟨(nT k).toArray⟩)]:=by
 have h1:k.toNat<ur.length:=by simp[ur];omega
 rw[bn,List.getElem?_map,nT,if_neg h,List.getD_eq_getElem?_getD,List.getElem?_eq_getElem h1];rfl
theorem yb(k:Int):PC Tryz.prog 243 [.i k] (.t (nT k)):=by
 refine⟨LC.of_go Tryz.func243 (c:=_) rfl (by kernel_rfl) (by rw[Tryz.ntmps243];simp) rfl rfl (by simp[LO.lt,an,LV.lt,aq]) (by simp) ?_⟩;intro B hA hmd;refine .seq (.region rfl (aa (h:=.n0 (.seq (.seq (.region rfl (ae (h:=ah (au _ _ _ _ _ _) (h:=ae (h:=ae (h:=ah (aJ _ _ _ _ _ _) (h:=aX (h:=.n0 ?_)))))))))))));refine aj (ht:=fun hc=>?_) (hf:=fun hc=>?_);rw[show nT k=[]from if_pos (by simpa using hc)];refine .seq (.region rfl (aa (h:=.n0 ?_)));exact LGo.ret (ax Tryz.results243 hA hmd);have hk:¬(k<1∨13<k):=by simpa using hc
 have hx:=Cy hk;refine .skip (.seq (.region rfl (bE iL (bn ur) (xs:=[_,_,_,_,_,_,_,_,_,_,_,_,_,_]) (es:=[_,_,_,_,_,_,_,_,_,_,_,_,_,_]) (hcs:=CellsOfs.cons (CellsOf.one rfl) (CellsOfs.cons (CellsOf.one rfl) (CellsOfs.cons (CellsOf.one rfl) (CellsOfs.cons (CellsOf.one rfl) (CellsOfs.cons (CellsOf.one rfl) (CellsOfs.cons (CellsOf.one rfl) (CellsOfs.cons (CellsOf.one rfl) (CellsOfs.cons (CellsOf.one rfl) (CellsOfs.cons (CellsOf.one rfl) (CellsOfs.cons (CellsOf.one rfl) (CellsOfs.cons (CellsOf.one rfl) (CellsOfs.cons (CellsOf.one rfl) (CellsOfs.cons (CellsOf.one rfl) (CellsOfs.cons (CellsOf.one rfl) (CellsOfs.nil))))))))))))))) (h:=ae (h:=aw wx (hj:=fun hg=>⟨by omega,hx⟩) (h:=aM O9 (h:=aa (h:=.n0 ?_))))))));exact LGo.ret (ax Tryz.results243 hA hmd)
def po(k:Int):List Int:=if k=1 then[2]else if k=2 then[3,5]else if k=4 then[3,5]else if k=5 then[3,5]else if k=8 then[3,5]else if k=3 then[3,6,7]else if k=6 then[3,4,8]else if k=7 then[3,4]else if k=9 then[4]else if k=10 then[3,6]else if k=11 then[3,6]else[4,9]
theorem zo(k:Int):(po k).length≤3:=by unfold po;(repeat' split)<;>simp
def pz(t:Int):List Int→Bool
 |[]=>decide (t=1)
 |x::l=>if x=t then true else pz t l
def e9(k t:Int):Bool:=pz t (po k)
theorem DY(k:Int):PC Tryz.prog 266 [.i k] (.sv (.sl 1 (ic .i64 (po k)))):=by
 refine⟨LC.of_go Tryz.func266 (c:=_) rfl (by kernel_rfl) (by rw[Tryz.ntmps266];simp) rfl rfl (by simp[LO.lt,an,LV.lt,aq]) (by simp) ?_⟩;intro B hA hmd;obtain⟨g,e0⟩:∃g,po k=g:=⟨_,rfl⟩;have e1:=e0;unfold po at e1;rw[e0];refine .seq (.region rfl (aa (h:=.n0 (.seq (.seq (.region rfl (ae (h:=.n0 (.block (.seq (.region rfl (ah (av _ _ _ _ _ _) (h:=aa (h:=?_))))))))))))));refine .n0 ?_;refine ao (ht:=fun hc=>?_) (hf:=fun hc=>?_);rw[if_pos hc]at e1;refine .seq (.region rfl (az fa (xs:=[_]) (es:=[_]) (hcs:=CellsOfs.cons (CellsOf.one rfl) CellsOfs.nil) (h:=aa (h:=.n0 ?_))));rw[←e1];exact LGo.ret (ax Tryz.results266 hA hmd);rw[if_neg hc]at e1;refine .seq (.seq (.region rfl (ah (av _ _ _ _ _ _) (h:=aa (h:=.n0 ?_)))));refine ao (ht:=fun hc2=>?_) (hf:=fun hc2=>?_);rw[if_pos hc2]at e1;refine .skip ?_;refine ao (ht:=fun _=>?_) (hf:=fun h=>absurd hc2 h);refine .seq (.region rfl (az fa (xs:=[_,_]) (es:=[_,_]) (hcs:=CellsOfs.cons (CellsOf.one rfl) (CellsOfs.cons (CellsOf.one rfl) CellsOfs.nil)) (h:=aa (h:=.n0 ?_))));rw[←e1];exact LGo.ret (ax Tryz.results266 hA hmd);rw[if_neg hc2]at e1;refine .seq (.region rfl (ah (av _ _ _ _ _ _) (h:=aa (h:=.n0 ?_))));refine ao (ht:=fun hc4=>?_) (hf:=fun hc4=>?_);rw[if_pos hc4]at e1;refine .skip ?_;refine ao (ht:=fun _=>?_) (hf:=fun h=>absurd hc4 h);refine .seq (.region rfl (az fa (xs:=[_,_]) (es:=[_,_]) (hcs:=CellsOfs.cons (CellsOf.one rfl) (CellsOfs.cons (CellsOf.one rfl) CellsOfs.nil)) (h:=aa (h:=.n0 ?_))));rw[←e1];exact LGo.ret (ax Tryz.results266 hA hmd);rw[if_neg hc4]at e1;refine .seq (.region rfl (ah (av _ _ _ _ _ _) (h:=aa (h:=.n0 ?_))));refine ao (ht:=fun hc6=>?_) (hf:=fun hc6=>?_);rw[if_pos hc6]at e1;refine .skip ?_;refine ao (ht:=fun _=>?_) (hf:=fun h=>absurd hc6 h);refine .seq (.region rfl (az fa (xs:=[_,_]) (es:=[_,_]) (hcs:=CellsOfs.cons (CellsOf.one rfl) (CellsOfs.cons (CellsOf.one rfl) CellsOfs.nil)) (h:=aa (h:=.n0 ?_))));rw[←e1];exact LGo.ret (ax Tryz.results266 hA hmd);rw[if_neg hc6]at e1;refine .region rfl (ah (av _ _ _ _ _ _) (h:=aa (h:=.n0 ?_)));refine ao (ht:=fun hc8=>?_) (hf:=fun hc8=>?_);rw[if_pos hc8]at e1;refine .seq (.region rfl (az fa (xs:=[_,_]) (es:=[_,_]) (hcs:=CellsOfs.cons (CellsOf.one rfl) (CellsOfs.cons (CellsOf.one rfl) CellsOfs.nil)) (h:=aa (h:=.n0 ?_))));rw[←e1];exact LGo.ret (ax Tryz.results266 hA hmd);rw[if_neg hc8]at e1;refine .seq (.region rfl (ah (av _ _ _ _ _ _) (h:=aa (h:=.n0 ?_))));refine ao (ht:=fun hc9=>?_) (hf:=fun hc9=>?_);rw[if_pos hc9]at e1;refine .seq (.region rfl (az fa (xs:=[_,_,_]) (es:=[_,_,_]) (hcs:=CellsOfs.cons (CellsOf.one rfl) (CellsOfs.cons (CellsOf.one rfl) (CellsOfs.cons (CellsOf.one rfl) CellsOfs.nil))) (h:=aa (h:=.n0 ?_))));rw[←e1];exact LGo.ret (ax Tryz.results266 hA hmd);rw[if_neg hc9]at e1;refine .seq (.region rfl (ah (av _ _ _ _ _ _) (h:=aa (h:=.n0 ?_))));refine ao (ht:=fun hc10=>?_) (hf:=fun hc10=>?_);rw[if_pos hc10]at e1;refine .seq (.region rfl (az fa (xs:=[_,_,_]) (es:=[_,_,_]) (hcs:=CellsOfs.cons (CellsOf.one rfl) (CellsOfs.cons (CellsOf.one rfl) (CellsOfs.cons (CellsOf.one rfl) CellsOfs.nil))) (h:=aa (h:=.n0 ?_))));rw[←e1];exact LGo.ret (ax Tryz.results266 hA hmd);rw[if_neg hc10]at e1;refine .seq (.region rfl (ah (av _ _ _ _ _ _) (h:=aa (h:=.n0 ?_))));refine ao (ht:=fun hc11=>?_) (hf:=fun hc11=>?_);rw[if_pos hc11]at e1;refine .seq (.region rfl (az fa (xs:=[_,_]) (es:=[_,_]) (hcs:=CellsOfs.cons (CellsOf.one rfl) (CellsOfs.cons (CellsOf.one rfl) CellsOfs.nil)) (h:=aa (h:=.n0 ?_))));rw[←e1];exact LGo.ret (ax Tryz.results266 hA hmd);rw[if_neg hc11]at e1;refine .seq (.region rfl (ah (av _ _ _ _ _ _) (h:=aa (h:=.n0 ?_))));refine ao (ht:=fun hc12=>?_) (hf:=fun hc12=>?_);rw[if_pos hc12]at e1;refine .seq (.region rfl (az fa (xs:=[_]) (es:=[_]) (hcs:=CellsOfs.cons (CellsOf.one rfl) CellsOfs.nil) (h:=aa (h:=.n0 ?_))));rw[←e1];exact LGo.ret (ax Tryz.results266 hA hmd);rw[if_neg hc12]at e1;refine .seq (.seq (.region rfl (ah (av _ _ _ _ _ _) (h:=aa (h:=.n0 ?_)))));refine ao (ht:=fun hc13=>?_) (hf:=fun hc13=>?_);rw[if_pos hc13]at e1;refine .skip ?_;refine ao (ht:=fun _=>?_) (hf:=fun h=>absurd hc13 h);refine .seq (.region rfl (az fa (xs:=[_,_]) (es:=[_,_]) (hcs:=CellsOfs.cons (CellsOf.one rfl) (CellsOfs.cons (CellsOf.one rfl) CellsOfs.nil)) (h:=aa (h:=.n0 ?_))));rw[←e1];exact LGo.ret (ax Tryz.results266 hA hmd);rw[if_neg hc13]at e1;refine .region rfl (ah (av _ _ _ _ _ _) (h:=aa (h:=.n0 ?_)));refine ao (ht:=fun hc15=>?_) (hf:=fun hc15=>?_);rw[if_pos hc15]at e1;refine .seq (.region rfl (az fa (xs:=[_,_]) (es:=[_,_]) (hcs:=CellsOfs.cons (CellsOf.one rfl) (CellsOfs.cons (CellsOf.one rfl) CellsOfs.nil)) (h:=aa (h:=.n0 ?_))));rw[←e1];exact LGo.ret (ax Tryz.results266 hA hmd);rw[if_neg hc15]at e1;refine .skip (.inBlock (.seq (.region rfl (az fa (xs:=[_,_]) (es:=[_,_]) (hcs:=CellsOfs.cons (CellsOf.one rfl) (CellsOfs.cons (CellsOf.one rfl) CellsOfs.nil)) (h:=aa (h:=.n0 ?_))))));rw[←e1];exact LGo.ret (ax Tryz.results266 hA hmd)
theorem pI(kd t:Int):PC Tryz.prog 244 [.i kd,.i t] (.b (e9 kd t)):=by
 refine⟨LC.of_go Tryz.func244 (c:=_) rfl (by kernel_rfl) (by rw[Tryz.ntmps244];simp) rfl rfl (by simp[LO.lt,an,LV.lt,aq]) (by simp) ?_⟩;intro B hA hmd;obtain⟨g,e0⟩:∃g,e9 kd t=g:=⟨_,rfl⟩;have e1:=e0;unfold e9 at e1;rw[e0];have hln:=zo kd;refine .seq (.region rfl (aa (h:=.n0 (.seq (.region rfl (ae (h:=ai (es:=[_]) (fun _=>DY kd) (h:=?_))))))));generalize po kd=xs at*;refine aa (h:=.n0 (.seq (.seq (.region rfl (aa (h:=.n0 (.block (.loop ?_))))))));refine ay (σ:=Nat) (fun x=>x≤xs.length∧pz t (xs.drop x)=g) (fun x=>[(6,(true,.i (x:Nat)))]) (fun x=>[]) (fun x=>xs.length-x) (0) [(1,_),(5,_)] ⟨Nat.zero_le _,by simpa using e1⟩ (by repeat (first|exact trivial|refine⟨rfl,?_⟩)) (by repeat (first|exact trivial|refine⟨rfl,?_⟩)) (by repeat (first|exact trivial|refine⟨rfl,?_⟩)) ?_;rintro k ⟨hk,hq⟩ ih;refine .seq (.seq (.region rfl (ae (h:=ae (h:=aF iE (h:=?_))))));rw[bp];refine ah (au _ _ _ _ _ _) (h:=.n0 ?_);refine ao (ht:=fun hc=>?_) (hf:=fun hc=>?_);have hlt:k<xs.length:=by omega
 have hx:(ic .i64 xs)[((k:Nat):Int).toNat]?=some [.val (.int .i64 xs[k])]:=by rw[Int.toNat_natCast];exact pH (List.getElem?_eq_getElem hlt)
 rw[List.drop_eq_getElem_cons hlt,pz]at hq;generalize xs[k]=x at hx hq;refine .skip (.seq (.block (.seq (.region rfl (ae (h:=ae (h:=aw jH (hj:=fun hg=>⟨by omega,hx⟩) (h:=aM O3 (h:=ae (h:=ah (av _ _ _ _ _ _) (h:=.n0 ?_)))))))))));refine ao (ht:=fun hc2=>?_) (hf:=fun hc2=>?_);rw[if_pos hc2]at hq;rw[←hq];refine .seq (.region rfl (aa (h:=.n0 ?_)));exact LGo.ret (ax Tryz.results244 hA hmd);rw[if_neg hc2]at hq;refine .skip (.inBlock (.region rfl (ae (h:=aG (h:=aa (h:=.n0 (.inLoop ?_)))))));exact LGo.next _ (fun o h=>by have:=(hA o).1 h;omega) (by omega) (ih (k+1) ⟨hlt,hq⟩ (by omega)) (by repeat (first|exact trivial|refine⟨rfl,?_⟩)) (by repeat (first|exact trivial|refine⟨rfl,?_⟩));rw[List.drop_eq_nil_of_le (by omega),pz]at hq;rw[←hq];refine .exit rfl (.seq (.region rfl (ae (h:=ah (av _ _ _ _ _ _) (h:=aa (h:=.n0 ?_))))));exact LGo.ret (ax Tryz.results244 hA hmd)
theorem pQ(t:Int):PC Tryz.prog 247 [.i t] (.agg ((bY t).c.map LV.sv)):=by
 refine⟨LC.of_go Tryz.func247 (c:=_) rfl (by kernel_rfl) (by rw[Tryz.ntmps247];simp) rfl rfl (by simp[LO.lt,an,LV.lt,aq]) (by simp) ?_⟩;intro B hA hmd;obtain⟨g,e0⟩:∃g,bY t=g:=⟨_,rfl⟩;have e1:=e0;unfold bY at e1;rw[e0];refine .seq (.region rfl (aD ph (h:=.n0 (.seq (.region rfl (ae (h:=br FM (is:=[0,1,3,4]) (xs:=[_,_,_,_]) (es:=[_,_,_,_]) (h:=aD ph (h:=ar ch (h:=.n0 (.seq (.seq (.region rfl ?_)))))))))))));refine ae (h:=.n0 (.block (.seq (.region rfl (ah (av _ _ _ _ _ _) (h:=aa (h:=.n0 ?_)))))));refine ao (ht:=fun hc=>?_) (hf:=fun hc=>?_);rw[if_pos hc]at e1;refine .region rfl (af hJ (h:=aA eP (h:=af eU (h:=aA eP (h:=.n0 (.inBlock (.seq (.region rfl (aB ch (h:=ar ch (h:=.n0 ?_)))))))))));rw[←e1];exact LGo.ret (cM Tryz.results247 ch hA hmd);rw[if_neg hc]at e1;refine .seq (.seq (.region rfl (ah (av _ _ _ _ _ _) (h:=aa (h:=.n0 ?_)))));refine ao (ht:=fun hc2=>?_) (hf:=fun hc2=>?_);rw[if_pos hc2]at e1;refine .skip ?_;refine ao (ht:=fun _=>?_) (hf:=fun h=>absurd hc2 h);refine .region rfl (af eU (h:=aA eP (h:=.n0 (.inBlock (.seq (.region rfl (aB ch (h:=ar ch (h:=.n0 ?_)))))))));rw[←e1];exact LGo.ret (cM Tryz.results247 ch hA hmd);rw[if_neg hc2]at e1;refine .region rfl (ah (av _ _ _ _ _ _) (h:=aa (h:=.n0 ?_)));refine ao (ht:=fun hc4=>?_) (hf:=fun hc4=>?_);rw[if_pos hc4]at e1;refine .region rfl (af eU (h:=aA eP (h:=.n0 (.inBlock (.seq (.region rfl (aB ch (h:=ar ch (h:=.n0 ?_)))))))));rw[←e1];exact LGo.ret (cM Tryz.results247 ch hA hmd);rw[if_neg hc4]at e1;refine .seq (.region rfl (ah (av _ _ _ _ _ _) (h:=aa (h:=.n0 ?_))));refine ao (ht:=fun hc5=>?_) (hf:=fun hc5=>?_);rw[if_pos hc5]at e1;refine .region rfl (af fR (h:=aA O3 (h:=af hJ (h:=aA eP (h:=af eU (h:=aA eP (h:=.n0 (.inBlock (.seq (.region rfl (aB ch (h:=ar ch (h:=.n0 ?_)))))))))))));rw[←e1];exact LGo.ret (cM Tryz.results247 ch hA hmd);rw[if_neg hc5]at e1;refine .seq (.region rfl (ah (av _ _ _ _ _ _) (h:=aa (h:=.n0 ?_))));refine ao (ht:=fun hc6=>?_) (hf:=fun hc6=>?_);rw[if_pos hc6]at e1;refine .region rfl (af fR (h:=aA O3 (h:=af hJ (h:=aA eP (h:=af eU (h:=aA eP (h:=.n0 (.inBlock (.seq (.region rfl (aB ch (h:=ar ch (h:=.n0 ?_)))))))))))));rw[←e1];exact LGo.ret (cM Tryz.results247 ch hA hmd);rw[if_neg hc6]at e1;refine .skip (.inBlock (.seq (.region rfl (aB ch (h:=ar ch (h:=.n0 ?_))))));rw[←e1];exact LGo.ret (cM Tryz.results247 ch hA hmd)
def sP(r:Rq)(t:Int):Int:=if t=1 then(if 9223372036854775807<r.id then-1 else r.id)else if t=2 then r.owner else if t=5 then r.seat else if t=6 then r.sec else if t=7 then r.n else if t=8 then r.to else r.gate
def kD(r:Rq)(t:Int):List UInt8:=if t=3 then r.ses else r.tic
theorem Bk(r:Rq)(hr:gU r)(t:Int):PC Tryz.prog 246 [.agg (r.c.map LV.sv),.i t] (.i (sP r t)):=by
 refine⟨LC.of_go Tryz.func246 (c:=_) rfl (by kernel_rfl) (by rw[Tryz.ntmps246];simp) rfl rfl (by simp[LO.lt,an,LV.lt,aq]) (by simp) ?_⟩;intro B hA hmd;have h1:=hr.id;have h2:=hr.owner;have h3:=hr.to;obtain⟨g,e0⟩:∃g,sP r t=g:=⟨_,rfl⟩;have e1:=e0;unfold sP at e1;rw[e0];refine .seq (.region rfl (bg (h:=aa (h:=.n0 (.seq (.seq (.region rfl (ae (h:=.n0 (.block (.seq (.region rfl (ah (av _ _ _ _ _ _) (h:=?_))))))))))))));refine aa (h:=.n0 ?_);refine ao (ht:=fun hc=>?_) (hf:=fun hc=>?_);rw[if_pos hc]at e1;refine .seq (.seq (.region rfl (af wZ (h:=ag eP (h:=ah (aJ _ _ _ _ _ _) (h:=.n0 ?_))))));refine ao (ht:=fun hc2=>?_) (hf:=fun hc2=>?_);rw[if_pos hc2]at e1;refine .seq (.region rfl (aa (h:=.n0 ?_)));rw[←e1];exact LGo.ret (ax Tryz.results246 hA hmd);rw[if_neg hc2]at e1;refine .skip (.seq (.region rfl (af wZ (h:=ag eP (h:=bS Tryz.runUnderlying55 Tryz.runUnderlying2 (h:=aa (h:=.n0 ?_)))))));rw[←e1];exact LGo.ret (ax Tryz.results246 hA hmd);rw[if_neg hc]at e1;refine .seq (.region rfl (ah (av _ _ _ _ _ _) (h:=aa (h:=.n0 ?_))));refine ao (ht:=fun hc3=>?_) (hf:=fun hc3=>?_);rw[if_pos hc3]at e1;refine .seq (.region rfl (af BG (h:=ag sL (h:=bS Tryz.runUnderlying43 Tryz.runUnderlying2 (h:=aa (h:=.n0 ?_))))));rw[←e1];exact LGo.ret (ax Tryz.results246 hA hmd);rw[if_neg hc3]at e1;refine .seq (.region rfl (ah (av _ _ _ _ _ _) (h:=aa (h:=.n0 ?_))));refine ao (ht:=fun hc4=>?_) (hf:=fun hc4=>?_);rw[if_pos hc4]at e1;refine .seq (.region rfl (af BE (h:=ag O3 (h:=aa (h:=.n0 ?_)))));rw[←e1];exact LGo.ret (ax Tryz.results246 hA hmd);rw[if_neg hc4]at e1;refine .seq (.region rfl (ah (av _ _ _ _ _ _) (h:=aa (h:=.n0 ?_))));refine ao (ht:=fun hc5=>?_) (hf:=fun hc5=>?_);rw[if_pos hc5]at e1;refine .seq (.region rfl (af BD (h:=ag O3 (h:=aa (h:=.n0 ?_)))));rw[←e1];exact LGo.ret (ax Tryz.results246 hA hmd);rw[if_neg hc5]at e1;refine .seq (.region rfl (ah (av _ _ _ _ _ _) (h:=aa (h:=.n0 ?_))));refine ao (ht:=fun hc6=>?_) (hf:=fun hc6=>?_);rw[if_pos hc6]at e1;refine .seq (.region rfl (af BC (h:=ag O3 (h:=aa (h:=.n0 ?_)))));rw[←e1];exact LGo.ret (ax Tryz.results246 hA hmd);rw[if_neg hc6]at e1;refine .seq (.region rfl (ah (av _ _ _ _ _ _) (h:=aa (h:=.n0 ?_))));refine ao (ht:=fun hc7=>?_) (hf:=fun hc7=>?_);rw[if_pos hc7]at e1;refine .seq (.region rfl (af BF (h:=ag sL (h:=bS Tryz.runUnderlying43 Tryz.runUnderlying2 (h:=aa (h:=.n0 ?_))))));rw[←e1];exact LGo.ret (ax Tryz.results246 hA hmd);rw[if_neg hc7]at e1;refine .skip (.inBlock (.seq (.region rfl (af BB (h:=ag O3 (h:=aa (h:=.n0 ?_)))))));rw[←e1];exact LGo.ret (ax Tryz.results246 hA hmd)
theorem Bb(r:Rq)(t:Int):PC Tryz.prog 245 [.agg (r.c.map LV.sv),.i t] (.t (kD r t)):=by
 refine⟨LC.of_go Tryz.func245 (c:=_) rfl (by kernel_rfl) (by rw[Tryz.ntmps245];simp) rfl rfl (by simp[LO.lt,an,LV.lt,aq]) (by simp) ?_⟩;intro B hA hmd;obtain⟨g,e0⟩:∃g,kD r t=g:=⟨_,rfl⟩;have e1:=e0;unfold kD at e1;rw[e0];refine .seq (.region rfl (bg (h:=aa (h:=.n0 (.seq (.seq (.region rfl (ae (h:=ah (av _ _ _ _ _ _) (h:=.n0 ?_))))))))));refine ao (ht:=fun hc=>?_) (hf:=fun hc=>?_);rw[if_pos hc]at e1;refine .seq (.region rfl (af pN (h:=ag O9 (h:=aa (h:=.n0 ?_)))));rw[←e1];exact LGo.ret (ax Tryz.results245 hA hmd);rw[if_neg hc]at e1;refine .skip (.seq (.region rfl (af hM (h:=ag O9 (h:=aa (h:=.n0 ?_))))));rw[←e1];exact LGo.ret (ax Tryz.results245 hA hmd)
def zb(r:Rq)(t:Int):Bool:=((decide (t=3)||decide (t=4))&&!decide (kD r t=[]))||(((!decide (t=3))&&!decide (t=4))&&!decide (sP r t=0))
def uh(r:Rq):Nat→Nat→Bool
 |0,_=>false
 |n+1,k=>if e9 r.kind k=true then uh r n (k+1)else if zb r k=true then true else uh r n (k+1)
def wG(r:Rq)(t:Int):Bool:=(decide (sP r t<0)||decide (uw (sP r t)<(bY t).low))||decide ((bY t).high<uw (sP r t))
def sY(r:Rq):Nat→Nat→Bool
 |0,_=>false
 |n+1,k=>if((decide ((k:Int)=3)||decide ((k:Int)=4))||!e9 r.kind k)=true then sY r n (k+1)else if wG r k=true then true else sY r n (k+1)
def AH(r:Rq)(t:Int):Bool:=e9 r.kind t&&!decide (((kD r t).length:Int)=(bY t).low)
def sX(r:Rq):Nat→Nat→Bool
 |0,_=>false
 |n+1,k=>if AH r k=true then true else sX r n (k+1)
def iv(r:Rq):Int:=if nT r.kind=[]then 2 else if uh r 8 2=true then 2 else if sY r 9 1=true then 7 else if sX r 2 3=true then 3 else 0
theorem BR(r:Rq)(hr:gU r)(t:Int):(kD r t).length≤maxLen:=by
 have h1:=hr.ses;have h2:=hr.tic;unfold kD;split<;>assumption
theorem vQ(r:Rq)(hr:gU r):PC Tryz.prog 215 [.agg (r.c.map LV.sv)] (.i (iv r)):=by
 refine⟨LC.of_go Tryz.func215 (c:=_) rfl (by kernel_rfl) (by rw[Tryz.ntmps215];simp) rfl rfl (by simp[LO.lt,an,LV.lt,aq]) (by simp) ?_⟩;intro B hA hmd;obtain⟨g,e0⟩:∃g,iv r=g:=⟨_,rfl⟩;have e1:=e0;unfold iv at e1;rw[e0];refine .seq (.region rfl (bg (h:=aa (h:=.n0 (.seq (.seq (.region rfl (af ld (h:=ag O3 (h:=ai (es:=[_]) (fun _=>yb r.kind) (h:=ah (bH _ _ _ _ _) (h:=.n0 ?_))))))))))));refine ao (ht:=fun hc=>?_) (hf:=fun hc=>?_);rw[if_pos hc]at e1;rw[←e1];refine .seq (.region rfl (aa (h:=.n0 ?_)));exact LGo.ret (ax Tryz.results215 hA hmd);rw[if_neg hc]at e1;refine .skip (.seq (.seq (.region rfl (aa (h:=.n0 (.block (.loop ?_)))))));refine ay (σ:=Nat×Nat) (fun x=>x.1+x.2=10∧2≤x.2∧(if uh r x.1 x.2=true then(2:Int)else if sY r 9 1=true then 7 else if sX r 2 3=true then 3 else 0)=g) (fun x=>[(3,(true,.i (x.2:Nat)))]) (fun x=>[(0,.box 121 (r.c.map LV.sv))]) (fun x=>x.1) ((8,2)) [(1,_)] ⟨rfl,Nat.le_refl _,e1⟩ (by repeat (first|exact trivial|refine⟨rfl,?_⟩)) (by repeat (first|exact trivial|refine⟨rfl,?_⟩)) (by repeat (first|exact trivial|refine⟨rfl,?_⟩)) ?_;rintro⟨fu,k⟩ ⟨q1,q2,e1⟩ ih;dsimp only at*;refine .seq (.seq (.region rfl (ae (h:=ah (cb _ _ _ _ _ _) (h:=.n0 ?_)))));refine ao (ht:=fun hc2=>?_) (hf:=fun hc2=>?_);obtain⟨f,rfl⟩:∃f,fu=f+1:=⟨fu-1,by omega⟩;rw[uh]at e1;refine .skip (.seq (.block (.seq (.seq (.region rfl (af ld (h:=ag O3 (h:=ae (h:=ai (es:=[_,_]) (fun _=>pI r.kind (k:Int)) (h:=.n0 ?_))))))))));refine aj (ht:=fun hc3=>?_) (hf:=fun hc3=>?_);rw[if_pos hc3]at e1;refine .exit rfl (.region rfl (ae (h:=aG (h:=aa (h:=.n0 (.inLoop ?_))))));exact LGo.next _ (fun o h=>by have:=(hA o).1 h;omega) (by omega) (ih (f,k+1) ⟨by dsimp only;omega,by dsimp only;omega,e1⟩ (by dsimp only;omega)) (by repeat (first|exact trivial|refine⟨rfl,?_⟩)) (by repeat (first|exact trivial|refine⟨rfl,?_⟩));rw[if_neg (show¬e9 r.kind (k:Int)=true from by rw[hc3];simp)]at e1;refine .skip (.seq (.region rfl (ae (h:=ah (av _ _ _ _ _ _) (h:=ae (h:=ae (h:=ah (av _ _ _ _ _ _) (h:=aX (h:=ae (h:=aB ct (h:=ae (h:=ai (es:=[_,_]) (fun _=>Bb r (k:Int)) (h:=ah (cj _ _ _ _ _) (h:=?_))))))))))))));refine aT (h:=ae (h:=ae (h:=ah (aC _ _ _ _ _ _) (h:=ae (h:=ae (h:=ah (aC _ _ _ _ _ _) (h:=aT (h:=ae (h:=aB ct (h:=ae (h:=ai (es:=[_,_]) (fun _=>Bk r hr (k:Int)) (h:=ah (aC _ _ _ _ _ _) (h:=aT (h:=?_))))))))))))));refine aX (h:=.n0 ?_);refine aj (ht:=fun hc4=>?_) (hf:=fun hc4=>?_);rw[if_pos (show zb r (k:Int)=true from hc4),if_pos rfl]at e1;rw[←e1];refine .seq (.region rfl (aa (h:=.n0 ?_)));exact LGo.ret (ax Tryz.results215 hA hmd);rw[if_neg (show¬zb r (k:Int)=true from by rw[show zb r (k:Int)=false from hc4];simp)]at e1;refine .skip (.inBlock (.region rfl (ae (h:=aG (h:=aa (h:=.n0 (.inLoop ?_)))))));exact LGo.next _ (fun o h=>by have:=(hA o).1 h;omega) (by omega) (ih (f,k+1) ⟨by dsimp only;omega,by dsimp only;omega,e1⟩ (by dsimp only;omega)) (by repeat (first|exact trivial|refine⟨rfl,?_⟩)) (by repeat (first|exact trivial|refine⟨rfl,?_⟩));obtain rfl:fu=0:=by omega
 rw[uh,if_neg (by simp)]at e1;refine .exit rfl (.seq (.seq (.region rfl (aa (h:=.n0 (.block (.loop ?_)))))));refine ay (σ:=Nat×Nat) (fun x=>x.1+x.2=10∧1≤x.2∧(if sY r x.1 x.2=true then(7:Int)else if sX r 2 3=true then 3 else 0)=g) (fun x=>[(4,(true,.i (x.2:Nat)))]) (fun x=>[(0,.box 121 (r.c.map LV.sv))]) (fun x=>x.1) ((9,1)) [(1,_)] ⟨rfl,Nat.le_refl _,e1⟩ (by repeat (first|exact trivial|refine⟨rfl,?_⟩)) (by repeat (first|exact trivial|refine⟨rfl,?_⟩)) (by repeat (first|exact trivial|refine⟨rfl,?_⟩)) ?_;rintro⟨fu,k⟩ ⟨q1,q2,e1⟩ ih2;dsimp only at*;refine .seq (.seq (.region rfl (ae (h:=ah (cb _ _ _ _ _ _) (h:=.n0 ?_)))));refine ao (ht:=fun hc5=>?_) (hf:=fun hc5=>?_);obtain⟨f,rfl⟩:∃f,fu=f+1:=⟨fu-1,by omega⟩;rw[sY]at e1;refine .skip (.seq (.block (.seq (.seq (.region rfl (ae (h:=ah (av _ _ _ _ _ _) (h:=ae (h:=ae (h:=ah (av _ _ _ _ _ _) (h:=aX (h:=ae (h:=af ld (h:=?_))))))))))))));refine ag O3 (h:=ae (h:=ai (es:=[_,_]) (fun _=>pI r.kind (k:Int)) (h:=bd (h:=aX (h:=.n0 ?_)))));refine aj (ht:=fun hc6=>?_) (hf:=fun hc6=>?_);rw[if_pos hc6]at e1;refine .exit rfl (.region rfl (ae (h:=aG (h:=aa (h:=.n0 (.inLoop ?_))))));exact LGo.next _ (fun o h=>by have:=(hA o).1 h;omega) (by omega) (ih2 (f,k+1) ⟨by dsimp only;omega,by dsimp only;omega,e1⟩ (by dsimp only;omega)) (by repeat (first|exact trivial|refine⟨rfl,?_⟩)) (by repeat (first|exact trivial|refine⟨rfl,?_⟩));rw[if_neg (show¬((decide ((k:Int)=3)||decide ((k:Int)=4))||!e9 r.kind (k:Int))=true from by rw[hc6];simp)]at e1;refine .skip (.seq (.region rfl (aB ct (h:=ae (h:=ai (es:=[_,_]) (fun _=>Bk r hr (k:Int)) (h:=aa (h:=.n0 (.seq (.region rfl (ae (h:=ah (au _ _ _ _ _ _) (h:=ae (h:=ae (h:=?_))))))))))))));refine dN Tryz.runUnderlying2 Tryz.runUnderlying55 (h:=?_);rw[s9];refine ae (h:=ai (es:=[_]) (fun _=>pQ (k:Int)) (h:=qi Bx (h:=ah (au _ _ _ _ _ _) (h:=aX (h:=ae (h:=ae (h:=dN Tryz.runUnderlying2 Tryz.runUnderlying55 (h:=?_))))))));rw[s9];refine ae (h:=ai (es:=[_]) (fun _=>pQ (k:Int)) (h:=qi G9 (h:=ah (aJ _ _ _ _ _ _) (h:=aX (h:=.n0 ?_)))));refine aj (ht:=fun hc7=>?_) (hf:=fun hc7=>?_);rw[if_pos (show wG r (k:Int)=true from hc7),if_pos rfl]at e1;rw[←e1];refine .seq (.region rfl (aa (h:=.n0 ?_)));exact LGo.ret (ax Tryz.results215 hA hmd);rw[if_neg (show¬wG r (k:Int)=true from by rw[show wG r (k:Int)=false from hc7];simp)]at e1;refine .skip (.inBlock (.region rfl (ae (h:=aG (h:=aa (h:=.n0 (.inLoop ?_)))))));exact LGo.next _ (fun o h=>by have:=(hA o).1 h;omega) (by omega) (ih2 (f,k+1) ⟨by dsimp only;omega,by dsimp only;omega,e1⟩ (by dsimp only;omega)) (by repeat (first|exact trivial|refine⟨rfl,?_⟩)) (by repeat (first|exact trivial|refine⟨rfl,?_⟩));obtain rfl:fu=0:=by omega
 rw[sY,if_neg (by simp)]at e1;refine .exit rfl (.seq (.seq (.region rfl (aa (h:=.n0 (.block (.loop ?_)))))));refine ay (σ:=Nat×Nat) (fun x=>x.1+x.2=5∧3≤x.2∧(if sX r x.1 x.2=true then(3:Int)else 0)=g) (fun x=>[(6,(true,.i (x.2:Nat)))]) (fun x=>[(0,.box 121 (r.c.map LV.sv))]) (fun x=>x.1) ((2,3)) [(1,_)] ⟨rfl,Nat.le_refl _,e1⟩ (by repeat (first|exact trivial|refine⟨rfl,?_⟩)) (by repeat (first|exact trivial|refine⟨rfl,?_⟩)) (by repeat (first|exact trivial|refine⟨rfl,?_⟩)) ?_;rintro⟨fu,k⟩ ⟨q1,q2,e1⟩ ih3;dsimp only at*;refine .seq (.seq (.region rfl (ae (h:=ah (cb _ _ _ _ _ _) (h:=.n0 ?_)))));refine ao (ht:=fun hc8=>?_) (hf:=fun hc8=>?_);obtain⟨f,rfl⟩:∃f,fu=f+1:=⟨fu-1,by omega⟩;rw[sX]at e1;have hln:=BR r hr (k:Int);refine .skip (.seq (.block (.seq (.region rfl (af ld (h:=ag O3 (h:=ae (h:=ai (es:=[_,_]) (fun _=>pI r.kind (k:Int)) (h:=ae (h:=aB ct (h:=ae (h:=ai (es:=[_,_]) (fun _=>Bb r (k:Int)) (h:=bC Tryz.runUnderlying9 (h:=?_))))))))))))));refine dN Tryz.runUnderlying3 Tryz.runUnderlying55 (h:=?_);rw[show IntKind.u64.wrap ((kD r (k:Int)).length:Int)=((kD r (k:Int)).length:Int)from by rw[IntKind.wrap_u64];unfold maxLen at hln;omega];refine ae (h:=ai (es:=[_]) (fun _=>pQ (k:Int)) (h:=qi Bx (h:=ah (aC _ _ _ _ _ _) (h:=aT (h:=.n0 ?_)))));refine aj (ht:=fun hc9=>?_) (hf:=fun hc9=>?_);rw[if_pos (show AH r (k:Int)=true from hc9),if_pos rfl]at e1;rw[←e1];refine .seq (.region rfl (aa (h:=.n0 ?_)));exact LGo.ret (ax Tryz.results215 hA hmd);rw[if_neg (show¬AH r (k:Int)=true from by rw[show AH r (k:Int)=false from hc9];simp)]at e1;refine .skip (.inBlock (.region rfl (ae (h:=aG (h:=aa (h:=.n0 (.inLoop ?_)))))));exact LGo.next _ (fun o h=>by have:=(hA o).1 h;omega) (by omega) (ih3 (f,k+1) ⟨by dsimp only;omega,by dsimp only;omega,e1⟩ (by dsimp only;omega)) (by repeat (first|exact trivial|refine⟨rfl,?_⟩)) (by repeat (first|exact trivial|refine⟨rfl,?_⟩));obtain rfl:fu=0:=by omega
 rw[sX,if_neg (by simp)]at e1;rw[←e1];refine .exit rfl (.seq (.region rfl (aa (h:=.n0 ?_))));exact LGo.ret (ax Tryz.results215 hA hmd)
theorem EJ{k:Int}(h0:0≤k)(h1:k<14):k=0∨k=1∨k=2∨k=3∨k=4∨k=5∨k=6∨k=7∨k=8∨k=9∨k=10∨k=11∨k=12∨k=13:=by omega
theorem pT{k:Int}(h:k<0∨14≤k):bQ k=0:=if_pos h
theorem BJ{k:Int}(h:k<0∨14≤k):nT k=[]:=if_pos (by omega)
theorem ki(k:Int):nT k=[]↔bQ k=0:=by
 by_cases h:k<0∨14≤k;simp[pT h,BJ h];rcases EJ (k:=k) (by omega) (by omega)with rfl|rfl|rfl|rfl|rfl|rfl|rfl|rfl|rfl|rfl|rfl|rfl|rfl|rfl<;>decide+kernel
theorem iT{kd:Int}(hk:bQ kd≠0){k:Nat}(h1:1≤k)(h2:k≤9):e9 kd k=!decide (gT (bQ kd) k=0):=by
 have h:¬(kd<0∨14≤kd):=fun h=>hk (pT h);obtain⟨j,rfl⟩:∃j:Nat,kd=j:=⟨kd.toNat,by omega⟩;have key:((List.range 14).all fun j=>(List.range 10).all fun k=>decide (bQ (j:Int)=0)||decide (k=0)||(e9 j k==!decide (gT (bQ (j:Int)) k=0)))=true:=by decide+kernel
 have k1:=List.all_eq_true.1 (List.all_eq_true.1 key j (List.mem_range.2 (by omega))) k (List.mem_range.2 (by omega));simp only[Bool.or_eq_true,decide_eq_true_eq,beq_iff_eq]at k1;rcases k1 with(k1|k1)|k1
 exact absurd k1 hk;omega;exact k1
def Hs(f:Fld):Bool:=(!decide (f.num=0))||!decide (f.txt=[])
def Ip(x:Rule)(f:Fld)(is:Bool):Bool:=decide (x.kind=1)&&(((!is)||decide (f.num<x.low))||decide (x.high<f.num))
def Az(x:Rule)(f:Fld):Bool:=decide (x.kind=2)&&!decide ((f.txt.length:Int)=x.low)
def Ub(m:Int)(r:Rq):Nat→Nat→Bool
 |0,_=>false
 |n+1,k=>(decide (gT m k=0)&&Hs (bz r k).1)||Ub m r n (k+1)
def Nb(m:Int)(r:Rq):Nat→Nat→Bool
 |0,_=>false
 |n+1,k=>((!decide (gT m k=0))&&Ip (bY k) (bz r k).1 (bz r k).2)||Nb m r n (k+1)
def Lb(m:Int)(r:Rq):Nat→Nat→Bool
 |0,_=>false
 |n+1,k=>((!decide (gT m k=0))&&Az (bY k) (bz r k).1)||Lb m r n (k+1)
theorem p5(m:Int)(r:Rq):∀(n k:Nat) (l:List Fld) (e:Int),e=0∨e=3∨e=7→
 (mU m r n k l e).2=if Ub m r n k=true then 2 else if(Nb m r n k||decide (e=7))=true then 7 else if(Lb m r n k||decide (e=3))=true then 3 else 0
 |0,k,l,e,he=>by
  rcases he with rfl|rfl|rfl<;>simp[mU,Ub,Nb,Lb]
 |n+1,k,l,e,he=>by
  rw[mU,Ub,Nb,Lb];by_cases hb:gT m k=0;rw[if_pos hb];by_cases hz:Hs (bz r k).1=true;rw[if_pos (by exact hz)];simp[hb,hz];rw[if_neg (by exact hz),p5 m r n (k+1) l e he];simp only[Bool.not_eq_true]at hz;simp[hb,hz];rw[if_neg hb,p5 m r n (k+1) _ _ ?_];have hd:decide (gT m k=0)=false:=by simp[hb]
  rw[hd];simp only[Bool.false_and,Bool.false_or,Bool.not_false,Bool.true_and];by_cases hn:Ip (bY k) (bz r k).1 (bz r k).2=true;rw[show jE (bY k) (bz r k).1 (bz r k).2 e=7 from if_pos hn,hn];simp;simp only[Bool.not_eq_true]at hn;by_cases hl:Az (bY k) (bz r k).1=true;rw[hn,hl];rcases he with rfl|rfl|rfl
  rw[show jE (bY k) (bz r k).1 (bz r k).2 0=3 from by unfold jE;rw[if_neg (by rw[show(_&&_)=false from hn];simp),if_pos (by rw[show(_&&_)=true from hl];simp)]];simp;rw[show jE (bY k) (bz r k).1 (bz r k).2 3=3 from by unfold jE;rw[if_neg (by rw[show(_&&_)=false from hn];simp),if_neg (by simp)]];simp;rw[show jE (bY k) (bz r k).1 (bz r k).2 7=7 from by unfold jE;rw[if_neg (by rw[show(_&&_)=false from hn];simp),if_neg (by simp)]];simp;simp only[Bool.not_eq_true]at hl;rw[hn,hl,show jE (bY k) (bz r k).1 (bz r k).2 e=e from by unfold jE;rw[if_neg (by rw[show(_&&_)=false from hn];simp),if_neg (by rw[show(decide ((bY k).kind=2)&&!decide (((bz r k).1.txt.length:Int)=(bY k).low))=false from hl];simp)]];simp;unfold jE;split;exact .inr (.inr rfl);split;exact .inr (.inl rfl);exact he
theorem AN{k:Nat}(h1:1≤k)(h2:k≤9):k=1∨k=2∨k=3∨k=4∨k=5∨k=6∨k=7∨k=8∨k=9:=by omega
theorem oX{n:Int}(h:cR n):uw n=0↔n=0:=by unfold cR at h;unfold uw;omega
theorem Fm(r:Rq)(hr:gU r){k:Nat}(h1:2≤k)(h2:k≤9):zb r k=Hs (bz r k).1:=by
 have e1:=oX hr.seat;have e2:=oX hr.sec;have e3:=oX hr.n;have e4:=oX hr.gate;rcases AN (k:=k) (by omega) h2 with rfl|rfl|rfl|rfl|rfl|rfl|rfl|rfl|rfl
 omega;all_goals simp[zb,Hs,bz,sP,kD,e1,e2,e3,e4]
theorem Fl(r:Rq)(hr:gU r){k:Nat}(h1:1≤k)(h2:k≤9):((!(decide ((k:Int)=3)||decide ((k:Int)=4)))&&wG r k)=Ip (bY k) (bz r k).1 (bz r k).2:=by
 have b1:=hr.id;have b2:=hr.owner;have b3:=hr.to;have b4:=hr.seat;have b5:=hr.sec;have b6:=hr.n;have b7:=hr.gate;unfold cR at b4 b5 b6 b7;rcases AN (k:=k) (by omega) h2 with rfl|rfl|rfl|rfl|rfl|rfl|rfl|rfl|rfl
 all_goals
  rw[Bool.eq_iff_iff];simp[wG,Ip,bz,sP,bY,uw]
 all_goals (try split)<;>omega
theorem yV(r:Rq)(hr:gU r)(hk:bQ r.kind≠0):∀n k:Nat,2≤k→k+n=10→uh r n k=Ub (bQ r.kind) r n k
 |0,k,_,_=>rfl
 |n+1,k,h1,h2=>by
  rw[uh,Ub,yV r hr hk n (k+1) (by omega) (by omega),Fm r hr h1 (by omega),iT hk (by omega) (by omega)];by_cases hb:gT (bQ r.kind) k=0;simp only[hb,decide_true,Bool.not_true,Bool.false_eq_true,if_false,Bool.true_and];cases Hs (bz r k).1<;>simp
  simp[hb]
theorem yU(r:Rq)(hr:gU r)(hk:bQ r.kind≠0):∀n k:Nat,1≤k→k+n=10→sY r n k=Nb (bQ r.kind) r n k
 |0,k,_,_=>rfl
 |n+1,k,h1,h2=>by
  rw[sY,Nb,yU r hr hk n (k+1) (by omega) (by omega),←Fl r hr h1 (by omega),iT hk (by omega) (by omega)];cases(decide ((k:Int)=3)||decide ((k:Int)=4))<;>cases decide (gT (bQ r.kind) k=0)<;>cases wG r k<;>simp
theorem y0(m:Int)(r:Rq):∀n k:Nat,5≤k→k+n=10→Lb m r n k=false
 |0,_,_,_=>rfl
 |n+1,k,h1,h2=>by
  rw[Lb,y0 m r n (k+1) (by omega) (by omega)];have:Az (bY k) (bz r k).1=false:=by
   rcases AN (k:=k) (by omega) (by omega)with rfl|rfl|rfl|rfl|rfl|rfl|rfl|rfl|rfl<;>first|omega|simp[Az,bY]
  rw[this];simp
theorem Fo(r:Rq)(hk:bQ r.kind≠0):sX r 2 3=Lb (bQ r.kind) r 9 1:=by
 have h3:=iT hk (k:=3) (by omega) (by omega);have h4:=iT hk (k:=4) (by omega) (by omega);have l1:Az (bY ((1:Nat):Int)) (bz r ((1:Nat):Int)).1=false:=by simp[Az,bY]
 have l2:Az (bY ((2:Nat):Int)) (bz r ((2:Nat):Int)).1=false:=by simp[Az,bY]
 have l3:Az (bY ((3:Nat):Int)) (bz r ((3:Nat):Int)).1=!decide (((kD r 3).length:Int)=(bY 3).low):=by simp[Az,bY,bz,kD]
 have l4:Az (bY ((4:Nat):Int)) (bz r ((4:Nat):Int)).1=!decide (((kD r 4).length:Int)=(bY 4).low):=by simp[Az,bY,bz,kD]
 rw[Lb,Lb,Lb,Lb,y0 _ r 5 5 (by omega) rfl,l1,l2,l3,l4,←h3,←h4];simp only[sX,AH,Nat.reduceAdd,Bool.and_false,Bool.false_or,Bool.or_false];show(if(e9 r.kind 3&&_)=true then true else if(e9 r.kind 4&&_)=true then true else false)=_;cases(e9 r.kind 3&&!decide (((kD r 3).length:Int)=(bY 3).low))<;>cases(e9 r.kind 4&&!decide (((kD r 4).length:Int)=(bY 4).low))<;>rfl
theorem Am(r:Rq)(hr:gU r):gw r=iv r:=by
 unfold gw fieldsOf iv;by_cases hk:bQ r.kind=0;rw[if_pos hk,if_pos ((ki _).2 hk)];rw[if_neg hk,if_neg (fun h=>hk ((ki _).1 h)),p5 _ r 9 1 [] 0 (.inl rfl),yV r hr hk 8 2 (by omega) rfl,yU r hr hk 9 1 (by omega) rfl,Fo r hk];have hb:decide (gT (bQ r.kind) 1=0)=false:=by
  have h:=iT hk (k:=1) (by omega) (by omega);have h1:e9 r.kind ((1:Nat):Int)=true:=by
   unfold e9;have:∀l:List Int,pz ((1:Nat):Int) l=true:=by
    intro l;induction l with
    |nil=>rfl
    |cons x l ih=>rw[pz];split<;>first|rfl|exact ih
   exact this _
  rw[h1]at h;simpa using h.symm
 rw[Ub,hb];simp
theorem oH:∀(rs:List Rule) (last:Int),0≤last→dM last rs=0→rs.Pairwise (fun a b=>a.tag<b.tag)
 |[],_,_,_=>List.Pairwise.nil
 |r::rs,last,h0,h=>by
  have h1:=gE (r::rs) last h0 h;have hr:=h1 r (by simp);have h2:dM r.tag rs=0:=by
   simp only[dM]at h;split at h;cases h
   split at h;exact h;split at h;cases h
   exact h
  exact List.Pairwise.cons (fun q hq=>(gE rs r.tag (by omega) h2 q hq).1) (oH rs r.tag (by omega) h2)
theorem Al{rs:List Rule}(h:ig rs=0):rs.Pairwise (fun a b=>a.tag<b.tag):=by
 unfold ig at h;split at h;cases h
 exact oH rs 0 (by omega) h
def rem(rs:List Rule)(acc:List Fld):List Int:=(dC rs).filter (fun t=>!fi t acc)
theorem Cb(rs:List Rule)(acc:List Fld):uq rs acc=decide (0<((rem rs acc).length:Int)):=by
 unfold uq rem;rw[Bool.eq_iff_iff,List.any_eq_true,decide_eq_true_iff];constructor;rintro⟨t,h1,h2⟩;have:t∈(dC rs).filter (fun t=>!fi t acc):=List.mem_filter.2 ⟨h1,h2⟩;have:=List.length_pos_of_mem this;omega;intro h;obtain⟨t,ht⟩:=List.exists_mem_of_length_pos (by omega:0<((dC rs).filter (fun t=>!fi t acc)).length);obtain⟨h1,h2⟩:=List.mem_filter.1 ht;exact⟨t,h1,h2⟩
def fin(b:List UInt8)(acc:List Fld)(d:List Fld×List UInt8×List Int):List Fld×Int×Int:=
 if(decide ((0:Int)<d.2.1.length)||decide ((0:Int)<d.2.2.length))=true then([],(b.length:Int)-d.2.1.length,11)else(acc++d.1,0,0)
def BytL(l:List Int):Prop:=∀y∈l,0≤y∧y<256
theorem BytL.app{l m:List Int}(h:BytL l)(h2:BytL m):BytL (l++m):=fun y hy=>by
 rcases List.mem_append.1 hy with h'|h'
 exact h y h';exact h2 y h'
theorem BytL.cons{x:Int}{l:List Int}(h0:0≤x)(h1:x<256)(h:BytL l):BytL (x::l):=fun y hy=>by
 rcases List.mem_cons.1 hy with rfl|h'
 exact⟨h0,h1⟩;exact h y h'
theorem yy(x:Int):∀n,BytL (low x n)
 |0=>fun y hy=>by simp[low]at hy
 |n+1=>BytL.cons (Int.emod_nonneg _ (by omega)) (Int.emod_lt_of_pos _ (by omega)) (yy x n)
theorem CY(x:Int):BytL (fM x):=yy x _
theorem zn(l:List UInt8):BytL (pn l):=fun y hy=>by
 obtain⟨c,_,rfl⟩:=List.mem_map.1 hy;exact⟨HN c,HM c⟩
def DI(r:Rule)(x:Fld):List Int:=if r.kind=1 then((fM x.num).length:Int)::fM x.num else((x.txt.length:Int)/256)::((x.txt.length:Int)%256)::pn x.txt
theorem GR(r:Rule)(x:Fld):mV r x=x.tag::DI r x:=by
 unfold mV DI;split<;>rfl
theorem CM(r:Rule)(x:Fld)(h:gK x):BytL (DI r x):=by
 have h1:=mh x.num h.1 h.2.1;have h2:=h.2.2;unfold DI;split;exact BytL.cons (by omega) (by omega) (CY _);exact BytL.cons (by omega) (by omega) (BytL.cons (by omega) (by omega) (zn _))
theorem vz{rs:List Rule}(hrs:∀r∈rs,0<r.tag∧r.tag≤63):∀(fs:List Fld) (last:Int),(∀x∈fs,gK x)→BytL (gv rs last fs).2
 |[],_,_=>fun y hy=>by simp[gv]at hy
 |x::fs,last,h=>by
  simp only[gv];split;intro y hy;simp at hy;rename_i h1;split;have hr:dn x.tag rs=true:=by
   cases hh:dn x.tag rs with
   |true=>rfl
   |false=>rw[hh]at h1;simp at h1
  obtain⟨hm,ht⟩:=lx hr;have hb:=hrs _ hm;rw[ht]at hb;rw[GR];exact(BytL.cons (by omega) (by omega) (CM _ x (h x (by simp)))).app (vz hrs fs x.tag (fun y hy=>h y (by simp[hy])));intro y hy;simp at hy
theorem xF(rs:List Rule)(fs:List Fld)(h:∀x∈fs,gK x):BytL (dR rs fs).1:=by
 have hnil:BytL []:=fun y hy=>by simp at hy
 unfold dR;split;rename_i hc;have hk:=(qa hc).2;split;exact hnil;split;split;exact hnil;exact vz (fun r hr=>⟨(hk r hr).1,(hk r hr).2.1⟩) fs 0 h;exact hnil;exact hnil
def xX(rs:List Rule)(fs:List Fld):List UInt8:=(dR rs fs).1.map Hl
theorem vA{rs:List Rule}:∀(fs:List Fld) (last:Int),(gv rs last fs).1=0→(fs.map Fld.tag).Pairwise (·<·)∧∀x∈fs,last<x.tag∧dn x.tag rs=true
 |[],_,_=>⟨List.Pairwise.nil,by simp⟩
 |x::fs,last,h=>by
  simp only[gv]at h;split at h;cases h
  rename_i h1;rw[Bool.not_eq_true,Bool.or_eq_false_iff]at h1;have h2:dn x.tag rs=true:=by simpa using h1.1
  have h3:last<x.tag:=by simpa using h1.2
  split at h;obtain⟨i1,i2⟩:=vA fs x.tag h;refine⟨?_,fun y hy=>?_⟩;simp only[List.map_cons,List.pairwise_cons];refine⟨fun t ht=>?_,i1⟩;obtain⟨y,hy,rfl⟩:=List.mem_map.1 ht;exact(i2 y hy).1;rcases List.mem_cons.1 hy with rfl|hy
  exact⟨h3,h2⟩;have:=i2 y hy;exact⟨by omega,this.2⟩;rename_i h4;exact absurd h h4
theorem yS:∀(m l:List Int),m.Pairwise (·<·)→l.Pairwise (·<·)→(∀t∈l,t∈m)→l.length≤m.length
 |[],l,_,_,h=>by
  cases l with
  |nil=>simp
  |cons a l=>exact absurd (h a (by simp)) (by simp)
 |t::m,[],_,_,_=>by simp
 |t::m,s::l,hm,hl,h=>by
  have hm':=List.pairwise_cons.1 hm;have hl':=List.pairwise_cons.1 hl;have hs:t≤s:=by
   rcases List.mem_cons.1 (h s (by simp))with h1|h1
   omega;have:=hm'.1 s h1;omega
  have hsub:∀u∈l,u∈m:=fun u hu=>by
   have h1:=hl'.1 u hu;rcases List.mem_cons.1 (h u (by simp[hu]))with h2|h2
   omega;exact h2
  have:=yS m l hm'.2 hl'.2 hsub;simp only[List.length_cons];omega
theorem CV{rs:List Rule}(hc:ig rs=0)(fs:List Fld)(last:Int)(h:(gv rs last fs).1=0):fs.length≤16:=by
 obtain⟨h1,h2⟩:=vA fs last h;have h3:=yS (rs.map Rule.tag) (fs.map Fld.tag) (List.pairwise_map.2 (Al hc)) h1 (fun t ht=>by
  obtain⟨x,hx,rfl⟩:=List.mem_map.1 ht;obtain⟨hm,ht'⟩:=lx (h2 x hx).2;exact List.mem_map.2 ⟨_,hm,ht'⟩)
 rw[List.length_map,List.length_map]at h3;have:=(qa hc).1;omega
theorem Ae{rs:List Rule}{fs:List Fld}(h:(dR rs fs).2=0):ig rs=0∧(gv rs 0 fs).1=0∧rem rs fs=[]∧(dR rs fs).1=(gv rs 0 fs).2:=by
 unfold dR at h⊢;split at h;rename_i hc;rw[if_pos hc];split at h;cases h
 rename_i h1;rw[if_neg h1];split at h;rename_i h2;rw[if_pos h2];split at h;cases h
 rename_i h3;rw[if_neg h3];refine⟨hc,h2,?_,rfl⟩;rw[Cb]at h3;exact List.eq_nil_of_length_eq_zero (by have:=of_decide_eq_false (Bool.not_eq_true _▸h3);omega);rename_i h2;exact absurd h h2;rename_i hc;exact absurd h hc
theorem xE{rs:List Rule}{fs:List Fld}(h:(dR rs fs).2≠0):(dR rs fs).1=[]:=by
 unfold dR at h⊢;split;split;rfl;split;split;rfl;rename_i hc h1 h2 h3;rw[if_pos hc,if_neg h1,if_pos h2,if_neg h3]at h;exact absurd rfl h;rfl;rfl
theorem Af(rs:List Rule)(fs:List Fld)(hrs:rs.length≤100)(hfs:fs.length≤100)(hok:∀x∈fs,gK x):PC Tryz.prog 122 [.sv (.sl 5 (rs.map Rule.c)),.sv (.sl 3 (fs.map Fld.c))] (.tup [.sv (.sl 1 (aL (xX rs fs))),.i (dR rs fs).2]):=by
 have h:=CT rs fs hrs hfs hok;rw[GL _ (xF rs fs hok)]at h;exact h
theorem v8(r:Rule)(x:Fld)(hx:gK x)(h:x.txt.length≤500):(mV r x).length≤503:=by
 have h1:=mh x.num hx.1 hx.2.1;unfold mV;split<;>simp[rQ]<;>omega
theorem oE{rs:List Rule}:∀(fs:List Fld) (last:Int),(∀x∈fs,gK x∧x.txt.length≤500)→(gv rs last fs).2.length≤503*fs.length
 |[],_,_=>by simp[gv]
 |x::fs,last,h=>by
  simp only[gv];split;simp;split;have h1:=v8 (du x.tag rs) x (h x (by simp)).1 (h x (by simp)).2;have h2:=oE (rs:=rs) fs x.tag (fun y hy=>h y (by simp[hy]));simp only[List.length_append,List.length_cons];omega;simp
theorem sn{rs:List Rule}{l:List Fld}(h:∀x∈l,gK x∧x.txt.length≤500):(xX rs l).length≤8048:=by
 unfold xX;rw[List.length_map];by_cases he:(dR rs l).2=0;obtain⟨hc,h1,_,h3⟩:=Ae he;rw[h3];have:=oE (rs:=rs) l 0 h;have:=CV hc l 0 h1;omega;rw[xE he];simp
theorem xC{r:Rq}(hr:gU r)(hs:r.ses.length≤500∧r.tic.length≤500)(t:Int):gK (bz r t).1∧(bz r t).1.txt.length≤500:=by
 have h1:=hr.id;have h3:=hr.owner;have h4:=hr.to;have h2:=HL;obtain⟨h5,h6⟩:=hs;unfold bz
 (repeat' split)<;>simp only[gK]<;>refine⟨⟨?_,?_,?_⟩,?_⟩<;>first|exact(h2 _).1|exact(h2 _).2|(simp only[List.length_nil];omega)|omega
theorem p6{m:Int}{r:Rq}(hr:gU r)(hs:r.ses.length≤500∧r.tic.length≤500):∀(n k:Nat) (l:List Fld) (e:Int),(∀f∈l,gK f∧f.txt.length≤500)→(∀f∈(mU m r n k l e).1,gK f∧f.txt.length≤500)∧(mU m r n k l e).1.length≤l.length+n
 |0,k,l,e,hl=>by
  rw[mU];split;simp;exact⟨hl,by simp⟩
 |n+1,k,l,e,hl=>by
  rw[mU];split;split;simp;have:=p6 (m:=m) hr hs n (k+1) l e hl;exact⟨this.1,by omega⟩;have:=p6 hr hs n (k+1) (l++[(bz r k).1]) (jE (bY k) (bz r k).1 (bz r k).2 e) (m:=m) (fun f hf=>by
   rcases List.mem_append.1 hf with h|h
   exact hl f h;rw[List.mem_singleton.1 h];exact xC hr hs _)
  rw[List.length_append,List.length_cons,List.length_nil]at this;exact⟨this.1,by omega⟩
theorem mD{r:Rq}(hr:gU r)(hs:r.ses.length≤500∧r.tic.length≤500):(∀f∈(fieldsOf r).1,gK f∧f.txt.length≤500)∧(fieldsOf r).1.length≤9:=by
 unfold fieldsOf;split;simp;have:=p6 (m:=bQ r.kind) hr hs 9 1 [] 0 (by simp);simpa using this
theorem pR(m:Int):∀(n k:Nat) (l:List Rule),(sO m n k l).length≤l.length+n
 |0,k,l=>by simp[sO]
 |n+1,k,l=>by
  rw[sO];split;have:=pR m n (k+1) (l++[bY k]);simp at this;omega;have:=pR m n (k+1) l;omega
theorem qo(k:Int):(fN k).1.length≤16:=by
 unfold fN;split;simp;have:=pR (bQ k) 16 0 [];simpa using this
theorem rD{r:Rq}(h:(fieldsOf r).2=0):0≤r.kind∧r.kind<14:=by
 by_cases hk:r.kind<0∨14≤r.kind;unfold fieldsOf at h;rw[if_pos (pT hk)]at h;cases h
 omega
def kF(r:Rq):List UInt8×Int:=if(!decide ((fieldsOf r).2=0))=true then([],(fieldsOf r).2)else if(!decide ((dR (fN r.kind).1 (fieldsOf r).1).2=0))=true then([],(dR (fN r.kind).1 (fieldsOf r).1).2)else(Hl r.kind::xX (fN r.kind).1 (fieldsOf r).1,0)
def cD(k:Int):Bool×Bool×Int:=if bQ k=0 then(false,false,2)else(decide (gT (bQ k) 3=1),decide (gT (bQ k) 4=1),0)
theorem Cs(kd:Int):PC Tryz.prog 118 [.i kd] (.tup [.b (cD kd).1,.b (cD kd).2.1,.i (cD kd).2.2]):=by
 refine⟨LC.of_go Tryz.func118 (c:=_) rfl (by kernel_rfl) (by rw[Tryz.ntmps118];simp) rfl rfl (by simp[LO.lt,an,LV.lt,aq]) (by simp) ?_⟩;intro B hA hmd;obtain⟨g,e0⟩:∃g,cD kd=g:=⟨_,rfl⟩;have e1:=e0;unfold cD at e1;rw[e0];have hm:=ni kd;refine .seq (.region rfl (aa (h:=aa (h:=aa (h:=.n0 (.seq (.region rfl (ae (h:=ai (es:=[_]) (fun _=>wP kd) (h:=aa (h:=.n0 (.seq (.seq ?_)))))))))))));refine .region rfl (ae (h:=ah (av _ _ _ _ _ _) (h:=.n0 ?_)));refine ao (ht:=fun hc=>?_) (hf:=fun hc=>?_);rw[if_pos hc]at e1;rw[←e1];refine .seq (.region rfl (aa (h:=aa (h:=aa (h:=.n0 ?_)))));exact LGo.ret (iQ Tryz.results118 hA hmd);rw[if_neg hc]at e1;rw[←e1];generalize bQ kd=m at*;refine .skip (.seq (.region rfl (ae (h:=kM (h:=?_)))));rw[show min (Int.toNat 3) IntKind.u16.bits=3 from rfl];refine ah (jR _ _ _ .u16 _ 1 (mo _ (jM m 3 hm.1 hm.2).1 (jM m 3 hm.1 hm.2).2)) (h:=ah (av _ _ _ _ _ _) (h:=ae (h:=kM (h:=?_))));rw[show min (Int.toNat 4) IntKind.u16.bits=4 from rfl];refine ah (jR _ _ _ .u16 _ 1 (mo _ (jM m 4 hm.1 hm.2).1 (jM m 4 hm.1 hm.2).2)) (h:=ah (av _ _ _ _ _ _) (h:=aa (h:=aa (h:=aa (h:=.n0 ?_)))));exact LGo.ret (iQ Tryz.results118 hA hmd)
def bU(c:UInt8):Bool:=decide (32≤c.toNat)&&decide (c.toNat≤126)&&!decide (c.toNat=34)&&!decide (c.toNat=92)
def dy(c:UInt8):UInt8:=if c.toNat=34 then 34 else if c.toNat=92 then 92 else if c.toNat=10 then 110 else if c.toNat=13 then 114 else if c.toNat=9 then 116 else 0
def iI:List UInt8:=[48,49,50,51,52,53,54,55,56,57,97,98,99,100,101,102]
def eQ(n:Nat):UInt8:=iI.getD n 0
def aW(c:UInt8):List UInt8:=if bU c=true then[c]else if dy c≠0 then[92,dy c]else[92,120,eQ (c.toNat/16),eQ (c.toNat%16)]
def ed(s:List UInt8):List UInt8:=34::(s.flatMap aW++[34])
def cS(c:UInt8):Nat:=iI.idxOf c
def bR:List UInt8→UInt8×Nat
 |[]=>(0,0)
 |a::r=>
  if a.toNat=34 then(34,1)else if a.toNat=92 then(92,1)else if a.toNat=110 then(10,1)else if a.toNat=114 then(13,1)else if a.toNat=116 then(9,1)
  else if a.toNat≠120 then(0,0)else match r with
   |h::l::_=>if 16≤cS h∨16≤cS l then(0,0)else if(bU (UInt8.ofNat (16*cS h+cS l))||decide (dy (UInt8.ofNat (16*cS h+cS l))≠0))=true then(0,0)else(UInt8.ofNat (16*cS h+cS l),3)
   |_=>(0,0)
def fc:Nat→List UInt8→List UInt8→Nat→List UInt8×Nat
 |0,_,_,_=>([],0)
 |_+1,[],_,_=>([],0)
 |f+1,c::r,acc,i=>
  if c.toNat=34 then(acc,i+1)else if c.toNat=92 then(if(bR r).2=0 then([],0)else fc f (r.drop (bR r).2) (acc++[(bR r).1]) (i+1+(bR r).2))
  else if bU c=true then fc f r (acc++[c]) (i+1)else([],0)
def rk:List UInt8→List UInt8×Nat
 |[]=>([],0)
 |a::r=>if a.toNat=34 then fc (r.length+1) r [] 1 else([],0)
theorem kX{p:UInt8→Prop}[DecidablePred p](h:((List.range 256).all fun n=>decide (p (UInt8.ofNat n)))=true)(c:UInt8):p c:=by
 have h1:=List.all_eq_true.1 h c.toNat (List.mem_range.2 c.toNat_lt);have h2:UInt8.ofNat c.toNat=c:=UInt8.ofNat_toNat;rw[h2]at h1;exact of_decide_eq_true h1
theorem zl(c:UInt8)(h:bU c=false)(rest:List UInt8):∃t,aW c=92::t∧bR (t++rest)=(c,t.length)∧t≠[]:=by
 have key:bU c=false→∃t,aW c=92::t∧(t=[dy c]∧dy c≠0∧bR [dy c]=(c,1)∨t=[120,eQ (c.toNat/16),eQ (c.toNat%16)]∧bR t=(c,3)):=by
  have:∀c,bU c=false→(aW c).head?=some 92∧((aW c).tail=[dy c]∧dy c≠0∧bR [dy c]=(c,1)∨(aW c).tail=[120,eQ (c.toNat/16),eQ (c.toNat%16)]∧bR (aW c).tail=(c,3)):=
   fun c=>kX (p:=fun c=>bU c=false→(aW c).head?=some 92∧((aW c).tail=[dy c]∧dy c≠0∧bR [dy c]=(c,1)∨(aW c).tail=[120,eQ (c.toNat/16),eQ (c.toNat%16)]∧bR (aW c).tail=(c,3))) (by decide+kernel) c
  intro h;obtain⟨h1,h2⟩:=this c h;cases he:aW c with
  |nil=>rw[he]at h1;cases h1
  |cons a t=>
   rw[he]at h1 h2;simp at h1;subst h1;exact⟨t,rfl,by simpa using h2⟩
 obtain⟨t,h1,h2⟩:=key h;refine⟨t,h1,?_,?_⟩;rcases h2 with⟨rfl,h3,h4⟩|⟨rfl,h4⟩
 ·have h5:∀c,bU c=false→dy c≠0→(dy c).toNat≠120:=fun c=>kX (p:=fun c=>bU c=false→dy c≠0→(dy c).toNat≠120) (by decide+kernel) c;have h6:=h5 c h h3;simp only[bR,List.cons_append,List.nil_append,List.length_cons,List.length_nil]at h4⊢
  repeat' split at h4<;>simp_all
 simpa[bR]using h4;rcases h2 with⟨rfl,_⟩|⟨rfl,_⟩<;>simp
theorem uV(c:UInt8)(h:bU c=true):c.toNat≠34∧c.toNat≠92:=by
 simp[bU]at h;omega
theorem lj:∀(t:List UInt8) (f:Nat) (rest acc:List UInt8) (i:Nat),(t.flatMap aW).length<f→fc f (t.flatMap aW++34::rest) acc i=(acc++t,i+(t.flatMap aW).length+1)
 |[],f,rest,acc,i,hf=>by
  obtain⟨f,rfl⟩:∃g,f=g+1:=⟨f-1,by simp at hf;omega⟩;simp[fc]
 |c::t,f,rest,acc,i,hf=>by
  obtain⟨f,rfl⟩:∃g,f=g+1:=⟨f-1,by omega⟩;simp only[List.flatMap_cons,List.length_append]at hf;by_cases hp:bU c=true;have h1:aW c=[c]:=by simp[aW,hp]
  have h2:=uV c hp;simp only[List.flatMap_cons,h1,List.cons_append,List.nil_append,fc];rw[h1]at hf;simp only[List.length_cons,List.length_nil]at hf;rw[if_neg h2.1,if_neg h2.2,if_pos hp,lj t f rest (acc++[c]) (i+1) (by omega)];simp;omega;obtain⟨u,h1,h2,h3⟩:=zl c (by simpa using hp) (t.flatMap aW++34::rest);rw[List.flatMap_cons,h1];simp only[List.cons_append,List.append_assoc,fc];have hu:u.length≠0:=by simpa using h3
  rw[if_neg (by decide),if_pos (by decide),h2,if_neg hu];simp only[List.drop_left];rw[h1]at hf;simp only[List.length_cons]at hf;rw[lj t f rest (acc++[c]) _ (by omega)];simp;omega
theorem oj{r:List UInt8}(h:(bR r).2≠0):∃rest,r=(aW (bR r).1).tail++rest∧(aW (bR r).1)=92::(aW (bR r).1).tail∧(aW (bR r).1).tail.length=(bR r).2:=by
 cases r with
 |nil=>simp[bR]at h
 |cons a r=>
  have e1:∀n:Nat,∀b:UInt8,a.toNat=n→b.toNat=n→a=b:=fun n b h1 h2=>UInt8.toNat_inj.1 (h1.trans h2.symm);by_cases c1:a.toNat=34;obtain rfl:=e1 34 34 c1 rfl;exact⟨r,rfl,rfl,rfl⟩;by_cases c2:a.toNat=92;obtain rfl:=e1 92 92 c2 rfl;exact⟨r,rfl,rfl,rfl⟩;by_cases c3:a.toNat=110;obtain rfl:=e1 110 110 c3 rfl;exact⟨r,rfl,rfl,rfl⟩;by_cases c4:a.toNat=114;obtain rfl:=e1 114 114 c4 rfl;exact⟨r,rfl,rfl,rfl⟩;by_cases c5:a.toNat=116;obtain rfl:=e1 116 116 c5 rfl;exact⟨r,rfl,rfl,rfl⟩;by_cases c6:a.toNat≠120;simp[bR,c1,c2,c3,c4,c5,c6]at h;have c7:a.toNat=120:=by simpa using c6
  obtain rfl:=e1 120 120 c7 rfl
  match r,h with
  |[],h=>simp[bR]at h
  |[_],h=>simp[bR]at h
  |x::y::r,h=>
   simp only[bR]at h⊢;simp only[show(120:UInt8).toNat=120 from rfl,show¬(120:Nat)=34 by decide,show¬(120:Nat)=92 by decide,show¬(120:Nat)=110 by decide,show¬(120:Nat)=114 by decide,show¬(120:Nat)=116 by decide,show¬(120:Nat)≠120 by simp,if_false]at h⊢;split at h;simp at h;rename_i d1;rw[if_neg d1];split at h;simp at h;rename_i d2;have hx:cS x<16:=by omega
   have hy:cS y<16:=by omega
   have key:∀c:UInt8,cS c<16→eQ (cS c)=c:=fun c=>kX (p:=fun c=>cS c<16→eQ (cS c)=c) (by decide+kernel) c;have ev:(UInt8.ofNat (16*cS x+cS y)).toNat=16*cS x+cS y:=by rw[UInt8.toNat_ofNat'];omega
   simp only[Bool.or_eq_true,decide_eq_true_eq,not_or,Bool.not_eq_true]at d2;have he:aW (UInt8.ofNat (16*cS x+cS y))=[92,120,x,y]:=by
    unfold aW;rw[if_neg (by rw[d2.1];simp),if_neg d2.2,ev,show(16*cS x+cS y)/16=cS x by omega,show(16*cS x+cS y)%16=cS y by omega,key x hx,key y hy]
   rw[if_neg (by rw[d2.1,Bool.false_or];simpa using d2.2)];dsimp only;rw[he];exact⟨r,rfl,rfl,rfl⟩
theorem jV:∀(f:Nat) (r acc:List UInt8) (i:Nat),(fc f r acc i).2≠0→∃t rest,r=t.flatMap aW++34::rest∧fc f r acc i=(acc++t,i+(t.flatMap aW).length+1)
 |0,r,acc,i,h=>by simp[fc]at h
 |f+1,[],acc,i,h=>by simp[fc]at h
 |f+1,c::r,acc,i,h=>by
  have e1:∀n:Nat,∀b:UInt8,c.toNat=n→b.toNat=n→c=b:=fun n b h1 h2=>UInt8.toNat_inj.1 (h1.trans h2.symm);by_cases c1:c.toNat=34;obtain rfl:=e1 34 34 c1 rfl;exact⟨[],r,by simp,by simp[fc]⟩;by_cases c2:c.toNat=92;rw[fc,if_neg c1,if_pos c2]at h⊢;obtain rfl:=e1 92 92 c2 rfl;by_cases hn:(bR r).2=0;rw[if_pos hn]at h;exact absurd rfl h;rw[if_neg hn]at h⊢;obtain⟨rest,h1,h2,h3⟩:=oj hn;obtain⟨t,rest',h4,h5⟩:=jV f _ _ _ h;have h6:r.drop (bR r).2=rest:=by
   rw[←h3]
   conv=>lhs;arg 2;rw[h1]
   rw[List.drop_left]
  rw[h6]at h4;refine⟨(bR r).1::t,rest',?_,?_⟩;rw[List.flatMap_cons,h2];simp only[List.cons_append,List.append_assoc];rw[←h4,←h1];rw[h5,List.flatMap_cons,List.length_append,h2,List.length_cons,h3];simp;omega;by_cases hp:bU c=true;simp only[fc,if_neg c1,if_neg c2,if_pos hp]at h⊢;obtain⟨t,rest,h4,h5⟩:=jV f _ _ _ h;refine⟨c::t,rest,?_,?_⟩;rw[h4];simp[aW,hp];rw[h5];simp[aW,hp];omega;simp[fc,c1,c2,hp]at h
theorem BP(t rest:List UInt8):rk (ed t++rest)=(t,(ed t).length):=by
 simp only[ed,List.cons_append,List.append_assoc,List.nil_append,rk];rw[if_pos (by decide),lj t _ rest [] 1 (by simp only[List.length_append,List.length_cons];omega)];simp;omega
theorem Hy:(1,fj.map (Value.int .u8))∈oL:=by simp[oL]
theorem qx(c:UInt8):bU c=(decide ((c.toNat:Int)≥32)&&decide ((c.toNat:Int)≤126)&&!decide ((c.toNat:Int)=34)&&!decide ((c.toNat:Int)=92)):=by
 rw[Bool.eq_iff_iff];simp[bU];omega
theorem kr(c:UInt8):PC Tryz.prog 127 [.y c.toNat] (.b (bU c)):=by
 refine⟨LC.of_go Tryz.func127 (c:=_) rfl (by kernel_rfl) (by rw[Tryz.ntmps127];simp) rfl rfl (by simp[LO.lt,an,LV.lt,aq]) (by simp) ?_⟩;intro B hA hmd;rw[qx];refine .seq (.region rfl (aa (h:=.n0 (.seq (.region rfl (ae (h:=ah (bh _ _ _ _ _ _) (h:=ae (h:=ae (h:=ah (cb _ _ _ _ _ _) (h:=aT (h:=ae (h:=ae (h:=?_))))))))))))));refine ah (aC _ _ _ _ _ _) (h:=aT (h:=ae (h:=ae (h:=ah (aC _ _ _ _ _ _) (h:=aT (h:=aa (h:=.n0 ?_)))))));exact LGo.ret (ax Tryz.results127 hA hmd)
theorem qE(c:UInt8):PC Tryz.prog 126 [.y c.toNat] (.y (dy c).toNat):=by
 refine⟨LC.of_go Tryz.func126 (c:=_) rfl (by kernel_rfl) (by rw[Tryz.ntmps126];simp) rfl rfl (by simp[LO.lt,an,LV.lt,aq]) (by simp) ?_⟩;intro B hA hmd;refine .seq (.region rfl (aa (h:=.n0 (.seq (.seq (.region rfl (vN HI (hm:=Hy) (h:=ae (h:=.n0 (.block (.loop ?_)))))))))));refine ay (σ:=Nat) (fun x=>x≤5∧(1≤x→c.toNat≠34)∧(2≤x→c.toNat≠92)∧(3≤x→c.toNat≠10)∧(4≤x→c.toNat≠13)∧(5≤x→c.toNat≠9)) (fun x=>[(6,(true,.i (x:Nat)))]) (fun x=>[]) (fun x=>5-x) (0) [(0,_),(5,_)] ⟨by omega,by omega,by omega,by omega,by omega,by omega⟩ (by repeat (first|exact trivial|refine⟨rfl,?_⟩)) (by repeat (first|exact trivial|refine⟨rfl,?_⟩)) (by repeat (first|exact trivial|refine⟨rfl,?_⟩)) ?_;rintro k ⟨hk,q1,q2,q3,q4,q5⟩ ih;refine .seq (.region rfl (ah (au _ _ _ _ _ _) (h:=.n0 (.seq ?_))));refine ao (ht:=fun hc=>?_) (hf:=fun hc=>?_);refine .skip (.seq (.block (.seq (.region rfl ?_))));rcases(show k=0∨k=1∨k=2∨k=3∨k=4 by omega)with rfl|rfl|rfl|rfl|rfl
 refine dI kN (hj:=fun _=>by omega) (h:=?_);have he:((((fj.map (Value.int .u8)).drop (Int.toNat ((0:Nat):Int)*2)).take 2).map LV.v)=[.y 34,.y 34]:=rfl;rw[he];clear he;refine aD ry (h:=ar rz (h:=.n0 (.seq (.region rfl (af hI (h:=ag O5 (h:=ae (h:=ah (av _ _ _ _ _ _) (h:=.n0 ?_)))))))));refine ao (ht:=fun hc2=>?_) (hf:=fun hc2=>?_);rw[show dy c=34 from by unfold dy;rw[if_pos (by omega)]];refine .seq (.region rfl (af gZ (h:=ag O5 (h:=aa (h:=.n0 ?_)))));exact LGo.ret (ax Tryz.results126 hA hmd);refine .skip (.inBlock (.region rfl (aG (h:=ae (h:=.n0 (.inLoop ?_))))));exact LGo.next _ (fun o h=>by have:=(hA o).1 h;omega) (by omega) (ih 1 ⟨by omega,by omega,by omega,by omega,by omega,by omega⟩ (by omega)) (by repeat (first|exact trivial|refine⟨rfl,?_⟩)) (by repeat (first|exact trivial|refine⟨rfl,?_⟩));refine dI kN (hj:=fun _=>by omega) (h:=?_);have he:((((fj.map (Value.int .u8)).drop (Int.toNat ((1:Nat):Int)*2)).take 2).map LV.v)=[.y 92,.y 92]:=rfl;rw[he];clear he;refine aD ry (h:=ar rz (h:=.n0 (.seq (.region rfl (af hI (h:=ag O5 (h:=ae (h:=ah (av _ _ _ _ _ _) (h:=.n0 ?_)))))))));refine ao (ht:=fun hc3=>?_) (hf:=fun hc3=>?_);rw[show dy c=92 from by unfold dy;rw[if_neg (q1 (by omega)),if_pos (by omega)]];refine .seq (.region rfl (af gZ (h:=ag O5 (h:=aa (h:=.n0 ?_)))));exact LGo.ret (ax Tryz.results126 hA hmd);refine .skip (.inBlock (.region rfl (aG (h:=ae (h:=.n0 (.inLoop ?_))))));exact LGo.next _ (fun o h=>by have:=(hA o).1 h;omega) (by omega) (ih 2 ⟨by omega,by omega,by omega,by omega,by omega,by omega⟩ (by omega)) (by repeat (first|exact trivial|refine⟨rfl,?_⟩)) (by repeat (first|exact trivial|refine⟨rfl,?_⟩));refine dI kN (hj:=fun _=>by omega) (h:=?_);have he:((((fj.map (Value.int .u8)).drop (Int.toNat ((2:Nat):Int)*2)).take 2).map LV.v)=[.y 10,.y 110]:=rfl;rw[he];clear he;refine aD ry (h:=ar rz (h:=.n0 (.seq (.region rfl (af hI (h:=ag O5 (h:=ae (h:=ah (av _ _ _ _ _ _) (h:=.n0 ?_)))))))));refine ao (ht:=fun hc4=>?_) (hf:=fun hc4=>?_);rw[show dy c=110 from by unfold dy;rw[if_neg (q1 (by omega)),if_neg (q2 (by omega)),if_pos (by omega)]];refine .seq (.region rfl (af gZ (h:=ag O5 (h:=aa (h:=.n0 ?_)))));exact LGo.ret (ax Tryz.results126 hA hmd);refine .skip (.inBlock (.region rfl (aG (h:=ae (h:=.n0 (.inLoop ?_))))));exact LGo.next _ (fun o h=>by have:=(hA o).1 h;omega) (by omega) (ih 3 ⟨by omega,by omega,by omega,by omega,by omega,by omega⟩ (by omega)) (by repeat (first|exact trivial|refine⟨rfl,?_⟩)) (by repeat (first|exact trivial|refine⟨rfl,?_⟩));refine dI kN (hj:=fun _=>by omega) (h:=?_);have he:((((fj.map (Value.int .u8)).drop (Int.toNat ((3:Nat):Int)*2)).take 2).map LV.v)=[.y 13,.y 114]:=rfl;rw[he];clear he;refine aD ry (h:=ar rz (h:=.n0 (.seq (.region rfl (af hI (h:=ag O5 (h:=ae (h:=ah (av _ _ _ _ _ _) (h:=.n0 ?_)))))))));refine ao (ht:=fun hc5=>?_) (hf:=fun hc5=>?_);rw[show dy c=114 from by unfold dy;rw[if_neg (q1 (by omega)),if_neg (q2 (by omega)),if_neg (q3 (by omega)),if_pos (by omega)]];refine .seq (.region rfl (af gZ (h:=ag O5 (h:=aa (h:=.n0 ?_)))));exact LGo.ret (ax Tryz.results126 hA hmd);refine .skip (.inBlock (.region rfl (aG (h:=ae (h:=.n0 (.inLoop ?_))))));exact LGo.next _ (fun o h=>by have:=(hA o).1 h;omega) (by omega) (ih 4 ⟨by omega,by omega,by omega,by omega,by omega,by omega⟩ (by omega)) (by repeat (first|exact trivial|refine⟨rfl,?_⟩)) (by repeat (first|exact trivial|refine⟨rfl,?_⟩));refine dI kN (hj:=fun _=>by omega) (h:=?_);have he:((((fj.map (Value.int .u8)).drop (Int.toNat ((4:Nat):Int)*2)).take 2).map LV.v)=[.y 9,.y 116]:=rfl;rw[he];clear he;refine aD ry (h:=ar rz (h:=.n0 (.seq (.region rfl (af hI (h:=ag O5 (h:=ae (h:=ah (av _ _ _ _ _ _) (h:=.n0 ?_)))))))));refine ao (ht:=fun hc6=>?_) (hf:=fun hc6=>?_);rw[show dy c=116 from by unfold dy;rw[if_neg (q1 (by omega)),if_neg (q2 (by omega)),if_neg (q3 (by omega)),if_neg (q4 (by omega)),if_pos (by omega)]];refine .seq (.region rfl (af gZ (h:=ag O5 (h:=aa (h:=.n0 ?_)))));exact LGo.ret (ax Tryz.results126 hA hmd);refine .skip (.inBlock (.region rfl (aG (h:=ae (h:=.n0 (.inLoop ?_))))));exact LGo.next _ (fun o h=>by have:=(hA o).1 h;omega) (by omega) (ih 5 ⟨by omega,by omega,by omega,by omega,by omega,by omega⟩ (by omega)) (by repeat (first|exact trivial|refine⟨rfl,?_⟩)) (by repeat (first|exact trivial|refine⟨rfl,?_⟩));rw[show dy c=0 from by unfold dy;rw[if_neg (q1 (by omega)),if_neg (q2 (by omega)),if_neg (q3 (by omega)),if_neg (q4 (by omega)),if_neg (q5 (by omega))]];refine .exit rfl (.seq (.region rfl (aa (h:=.n0 ?_))));exact LGo.ret (ax Tryz.results126 hA hmd)
theorem yF(c:UInt8):iI[c.toNat/16]?=some (eQ (c.toNat/16))∧iI[c.toNat%16]?=some (eQ (c.toNat%16)):=by
 have h:=c.toNat_lt;have h1:c.toNat/16<iI.length:=by simp[iI];omega
 have h2:c.toNat%16<iI.length:=by simp[iI];omega
 simp[eQ,List.getD,List.getElem?_eq_getElem h1,List.getElem?_eq_getElem h2]
theorem wc(c:UInt8):(aW c).length≤4:=by unfold aW;repeat' split<;>simp
theorem gh:∀s:List UInt8,(s.flatMap aW).length≤4*s.length
 |[]=>by simp
 |c::s=>by have h1:=gh s;have h2:=wc c;simp only[List.flatMap_cons,List.length_append,List.length_cons];omega
theorem kl(s:List UInt8):(ed s).length≤4*s.length+2:=by have:=gh s;simp only[ed,List.length_cons,List.length_append,List.length_nil];omega
theorem rR{s:List UInt8}{k:Nat}(h:k<s.length):(s.take (k+1)).flatMap aW=(s.take k).flatMap aW++aW s[k]:=by
 rw[List.take_succ_eq_append_getElem h,List.flatMap_append];simp
theorem H9(c:UInt8):IntKind.u8.wrap ((BitVec.ofInt IntKind.u8.bits (c.toNat:Int)&&&BitVec.ofInt IntKind.u8.bits 15).toNat)=((c.toNat%16:Nat):Int):=
 kX (p:=fun c=>IntKind.u8.wrap ((BitVec.ofInt IntKind.u8.bits (c.toNat:Int)&&&BitVec.ofInt IntKind.u8.bits 15).toNat)=((c.toNat%16:Nat):Int)) (by decide+kernel) c
theorem Eu(s:List UInt8)(hs:s.length≤100000):PC Tryz.prog 69 [.t s] (.t (ed s)):=by
 refine⟨LC.of_go Tryz.func69 (c:=_) rfl (by kernel_rfl) (by rw[Tryz.ntmps69];simp) rfl rfl (by simp[LO.lt,an,LV.lt,aq]) (by simp) ?_⟩;intro B hA hmd;refine .seq (.region rfl (aa (h:=.n0 (.seq (.region rfl (ae (h:=bC Tryz.runUnderlying9 (h:=aG (h:=Av dm (k:= .u8) (by kernel_rfl) (h0:=Int.le_refl 0) (hlc:=by omega) (hm:=by omega) (h:=?_))))))))));rw[show ic .u8 (List.replicate (Int.toNat 0) 0)=aL []from rfl];refine aa (h:=.n0 (.seq (.region rfl (ae (h:=az dm (xs:=[_]) (es:=[_]) (hcs:=CellsOfs.cons (CellsOf.one rfl) CellsOfs.nil) (h:=aO dm (hs:=SrcOk.sl Tryz.underlying52 (by simp)) (hlen:=by rw[ba];simp only[List.length_cons,List.length_nil];omega) (h:=aa (h:=.n0 (.seq (.seq (.region rfl (ae (h:=bC Tryz.runUnderlying9 (h:=?_))))))))))))));refine ae (h:=.n0 (.block (.loop ?_)));refine ay (σ:=Nat) (fun x=>x≤s.length) (fun x=>[(16,(true,.i (x:Nat))),(3,(true,.ref 1))]) (fun x=>[(1,.rs 5 1 (aL (34::(s.take x).flatMap aW)))]) (fun x=>s.length-x) (0) [(0,_),(15,_)] (Nat.zero_le _) (by repeat (first|exact trivial|refine⟨rfl,?_⟩)) (by repeat (first|exact trivial|refine⟨rfl,?_⟩)) (by repeat (first|exact trivial|refine⟨rfl,?_⟩)) ?_;rintro k hk ih;refine .seq (.region rfl (ah (au _ _ _ _ _ _) (h:=.n0 (.seq ?_))));refine ao (ht:=fun hc=>?_) (hf:=fun hc=>?_);have hlt:k<s.length:=by omega
 have hx:s[((k:Nat):Int).toNat]?=some s[k]:=by rw[Int.toNat_natCast];exact List.getElem?_eq_getElem hlt
 have htf:=rR hlt;have hfl:=gh (s.take k);rw[List.length_take]at hfl;generalize s[k]=c at hx htf;have hcl:=c.toNat_lt;refine .skip (.seq (.block (.seq (.region rfl (ae (h:=aa (h:=.n0 (.seq (.region rfl (ae (h:=ae (h:=bu Tryz.runUnderlying9 (hj:=fun hg=>⟨by omega,hx⟩) (h:=aa (h:=?_))))))))))))));refine .n0 (.seq (.region rfl (ae (h:=ai (es:=[_]) (fun _=>qE c) (h:=aa (h:=.n0 (.block (.seq (.region rfl (ae (h:=ai (es:=[_]) (fun _=>kr c) (h:=aa (h:=.n0 ?_)))))))))))));refine aj (ht:=fun hc2=>?_) (hf:=fun hc2=>?_);have he:aW c=[c]:=by unfold aW;rw[if_pos hc2]
 refine .region rfl (ae (h:=ae (h:=az dm (xs:=[_]) (es:=[_]) (hcs:=CellsOfs.cons (CellsOf.one rfl) CellsOfs.nil) (h:=aO dm (hs:=SrcOk.sl Tryz.underlying52 (by simp)) (hlen:=by rw[ba];simp only[List.length_cons,List.length_nil];omega) (h:=aa (h:=.n0 (.inBlock (.inBlock (.region rfl (aG (h:=ae (h:=.n0 (.inLoop ?_)))))))))))));exact bM [0,2] (b:=0) (fun o h=>by have:=(hA o).1 h;omega) (ih (k+1) (by omega) (by omega)) (by repeat (first|exact trivial|refine⟨rfl,?_⟩)) ⟨by rw[htf,he,←List.cons_append,dc];rfl,trivial⟩;refine .seq (.region rfl (ae (h:=ah (aC _ _ _ _ _ _) (h:=aa (h:=.n0 ?_)))));refine aj (ht:=fun hc3=>?_) (hf:=fun hc3=>?_);have he:aW c=[92,dy c]:=by
  unfold aW;rw[if_neg (by rw[hc2];simp),if_pos (by intro h;rw[h]at hc3;simp at hc3)]
 refine .region rfl (ae (h:=ae (h:=az dm (xs:=[_,_]) (es:=[_,_]) (hcs:=CellsOfs.cons (CellsOf.one rfl) (CellsOfs.cons (CellsOf.one rfl) CellsOfs.nil)) (h:=aO dm (hs:=SrcOk.sl Tryz.underlying52 (by simp)) (hlen:=by rw[ba];simp only[List.length_cons,List.length_nil];omega) (h:=aa (h:=.n0 (.inBlock (.inBlock (.region rfl (aG (h:=ae (h:=.n0 (.inLoop ?_)))))))))))));exact bM [0,2] (b:=0) (fun o h=>by have:=(hA o).1 h;omega) (ih (k+1) (by omega) (by omega)) (by repeat (first|exact trivial|refine⟨rfl,?_⟩)) ⟨by rw[htf,he,←List.cons_append,dc];rfl,trivial⟩;have he:aW c=[92,120,eQ (c.toNat/16),eQ (c.toNat%16)]:=by
  unfold aW;rw[if_neg (by rw[hc2];simp),if_neg (by
   intro h;apply h;have:((dy c).toNat:Int)=0:=by simpa using hc3
   exact UInt8.toNat_inj.1 (by rw[show(0:UInt8).toNat=0 from rfl];omega))]
 refine .region rfl (ae (h:=ae (h:=kM (h:=?_))));rw[show(c.toNat:Int)/2^(min (Int.toNat 4) IntKind.u8.bits)=((c.toNat/16:Nat):Int)from by rw[show min (Int.toNat 4) IntKind.u8.bits=4 from rfl];omega];refine bu Tryz.runUnderlying9 (l:=iI) (c:=eQ (c.toNat/16)) (hj:=fun _=>⟨by omega,by rw[Int.toNat_natCast];exact(yF c).1⟩) (h:=ae (h:=ah (jR _ _ _ .u8 _ 15 (H9 c)) (h:=bu Tryz.runUnderlying9 (l:=iI) (c:=eQ (c.toNat%16)) (hj:=fun _=>⟨by omega,by rw[Int.toNat_natCast];exact(yF c).2⟩) (h:=az dm (xs:=[_,_,_,_]) (es:=[_,_,_,_]) (hcs:=CellsOfs.cons (CellsOf.one rfl) (CellsOfs.cons (CellsOf.one rfl) (CellsOfs.cons (CellsOf.one rfl) (CellsOfs.cons (CellsOf.one rfl) CellsOfs.nil)))) (h:=aO dm (hs:=SrcOk.sl Tryz.underlying52 (by simp)) (hlen:=by rw[ba];simp only[List.length_cons,List.length_nil];omega) (h:=aa (h:=Reg.nil ⟨fun _=>⟨aQ,by rfl,by rfl⟩,.inBlock (.inBlock (.region rfl (aG (h:=ae (h:=.n0 ?_)))))⟩)))))));refine .inLoop ?_;exact bM [0,2] (b:=0) (fun o h=>by have:=(hA o).1 h;omega) (ih (k+1) (by omega) (by omega)) (by repeat (first|exact trivial|refine⟨rfl,?_⟩)) ⟨by rw[htf,he,←List.cons_append,dc];rfl,trivial⟩;obtain rfl:k=s.length:=by omega
 have hfl:=gh s;rw[List.take_length];refine .exit rfl (.seq (.region rfl (ae (h:=bE dm (aL [34]) (xs:=[_]) (es:=[_]) (hcs:=CellsOfs.cons (CellsOf.one rfl) CellsOfs.nil) (h:=sI dm (hs:=SrcOk.sl Tryz.underlying52 (jc _)) (hlen:=by simp only[ba,List.length_cons,List.length_nil];omega) (h:=?_))))));rw[←dc,show(34::s.flatMap aW)++[34]=ed s from rfl];refine cn Tryz.underlying52 Tryz.underlying5 Tryz.underlying9 (h:=aa (h:=.n0 ?_));exact LGo.ret (ax Tryz.results69 hA hmd)
structure GtG where
 secs:List Int
 fr:Int
 to:Int
 deriving DecidableEq
instance:Inhabited GtG:=⟨⟨[],0,0⟩⟩
structure GtE where
 seat:Int
 serial:Int
 epoch:Int
 gate:Int
 time:Int
 deriving DecidableEq
instance:Inhabited GtE:=⟨⟨0,0,0,0,0⟩⟩
structure GtS where
 gates:List GtG
 ents:List GtE
 deriving DecidableEq
structure GtC where
 gate:Int
 seat:Int
 owner:Int
 serial:Int
 epoch:Int
 sec:Int
 now:Int
def GtG.c(g:GtG):List SV:=[.sl 1 (ic .i64 g.secs),.val (.int .i64 g.fr),.val (.int .i64 g.to)]
def GtE.c(x:GtE):List SV:=[.val (.int .u32 x.seat),.val (.int .u64 x.serial),.val (.int .u64 x.epoch),.val (.int .i64 x.gate),.val (.int .i64 x.time)]
def GtS.c(s:GtS):List SV:=[.sl 3 (s.gates.map GtG.c),.sl 5 (s.ents.map GtE.c)]
def GtC.c(x:GtC):List SV:=[.val (.int .i64 x.gate),.val (.int .u32 x.seat),.val (.int .u32 x.owner),.val (.int .u64 x.serial),.val (.int .u64 x.epoch),.val (.int .i64 x.sec),.val (.int .i64 x.now)]
def c8(n:Int):Prop:=-9223372036854775808≤n∧n≤9223372036854775807
def FU(n:Int):Prop:=0≤n∧n<18446744073709551616
def DA(n:Int):Prop:=0≤n∧n<4294967296
def GtG.ok(g:GtG):Prop:=g.secs.length≤maxLen∧(∀n∈g.secs,c8 n)∧c8 g.fr∧c8 g.to
def GtE.ok(x:GtE):Prop:=DA x.seat∧FU x.serial∧FU x.epoch∧c8 x.gate∧c8 x.time
def GtS.ok(s:GtS):Prop:=s.gates.length≤maxLen∧(∀g∈s.gates,g.ok)∧s.ents.length≤maxLen∧∀x∈s.ents,x.ok
def GtC.ok(x:GtC):Prop:=c8 x.gate∧DA x.seat∧DA x.owner∧FU x.serial∧FU x.epoch∧c8 x.sec∧c8 x.now
def GtS.zero:GtS:=⟨[],[]⟩
def GtE.zero:GtE:=⟨0,0,0,0,0⟩
def eE:List Int→Int→Option Int
 |[],last=>some last
 |n::r,last=>if(decide (n≤last)||decide (8≤n))=true then none else eE r n
def fU(g:GtG):Bool:=match eE g.secs (-1)with
 |none=>false
 |some last=>(decide (0≤last)&&decide (0≤g.fr))&&decide (g.fr<g.to)
def lT(g:GtG)(t:Int):Int:=if t<g.fr then-1 else if g.to≤t then 1 else 0
def dS(l:List GtG):Int:=if 8<(l.length:Int)then 3 else if(decide ((l.length:Int)=0)||l.any fun g=>!fU g)=true then 6 else 0
abbrev K3:=Int×Int×Int
def GtE.key(x:GtE):K3:=(x.seat,x.epoch,x.serial)
def GtC.key(x:GtC):K3:=(x.seat,x.epoch,x.serial)
def K3.v(k:K3):List Value:=[.int .u64 k.1,.int .u64 k.2.1,.int .u64 k.2.2]
def kG(x y:Int):Int:=if x<y then-1 else if y<x then 1 else 0
def sU(a b:K3):Int:=if kG a.1 b.1=0 then(if kG a.2.1 b.2.1=0 then kG a.2.2 b.2.2 else kG a.2.1 b.2.1)else kG a.1 b.1
theorem s6{x y:Int}:kG x y=0↔x=y:=by unfold kG;(repeat' split)<;>simp<;>omega
theorem tC{x y:Int}:kG x y<0↔x<y:=by unfold kG;(repeat' split)<;>simp<;>omega
def IA(a b:K3):Prop:=a.1<b.1∨a.1=b.1∧(a.2.1<b.2.1∨a.2.1=b.2.1∧a.2.2<b.2.2)
theorem Fa{a b:K3}:sU a b<0↔IA a b:=by
 unfold sU IA;by_cases h1:kG a.1 b.1=0;rw[if_pos h1];have e1:=s6.1 h1;by_cases h2:kG a.2.1 b.2.1=0;rw[if_pos h2,tC];have e2:=s6.1 h2;omega;rw[if_neg h2,tC];have e2:a.2.1≠b.2.1:=fun e=>h2 (s6.2 e);omega;rw[if_neg h1,tC];have e1:a.1≠b.1:=fun e=>h1 (s6.2 e);omega
def DL(gs:List GtG)(p:Option GtE)(x:GtE):Bool:=
 ((decide (x.gate<0)||decide ((gs.length:Int)≤x.gate))||!decide (lT (gs.getD x.gate.toNat default) x.time=0))||(match p with|none=>false|some y=>decide (0≤sU y.key x.key))
def oa(gs:List GtG):Option GtE→List GtE→Bool
 |_,[]=>false
 |p,x::r=>DL gs p x||oa gs (some x) r
def dp(s:GtS):Int:=if dS s.gates≠0 then dS s.gates else if 500<(s.ents.length:Int)then 3 else if oa s.gates none s.ents=true then 6 else 0
def kU(l:List GtG):GtS×Int:=if dS l≠0 then(GtS.zero,dS l)else(⟨l,[]⟩,0)
def sS(x:GtG):Option Int→Bool
 |none=>false
 |some last=>(decide (0≤last)&&decide (0≤x.fr))&&decide (x.fr<x.to)
theorem ku(x:GtG):fU x=sS x (eE x.secs (-1)):=by unfold fU sS;cases eE x.secs (-1)<;>rfl
theorem wv{l:List Int}{j:Nat}(h:j<l.length):(ic .i64 l)[((j:Nat):Int).toNat]?=some [.val (.int .i64 l[j])]:=by
 rw[Int.toNat_natCast];exact pH (List.getElem?_eq_getElem h)
theorem GO(z:GtG)(hz:z.secs.length≤100000):PC Tryz.prog 135 [.agg (z.c.map LV.sv)] (.b (fU z)):=by
 refine⟨LC.of_go Tryz.func135 (c:=_) rfl (by kernel_rfl) (by rw[Tryz.ntmps135];simp) rfl rfl (by simp[LO.lt,an,LV.lt,aq]) (by simp) ?_⟩;intro B hA hmd;obtain⟨g,e0⟩:∃g,fU z=g:=⟨_,rfl⟩;have e1:=e0;rw[ku]at e1;rw[e0];refine .seq (.region rfl (bg (h:=aa (h:=.n0 (.seq (.region rfl (aa (h:=.n0 (.seq (.seq (.region rfl (af ez (h:=ag gP (h:=?_))))))))))))));refine aF iE (h:=?_);rw[bp];refine ae (h:=.n0 (.block (.loop ?_)));refine ay (σ:=Nat×Int) (fun x=>x.1≤z.secs.length∧sS z (eE (z.secs.drop x.1) x.2)=g) (fun x=>[(9,(true,.i (x.1:Nat))),(3,(true,.i x.2))]) (fun x=>[(0,.box 42 (z.c.map LV.sv))]) (fun x=>z.secs.length-x.1) (0,-1) [(1,_),(7,_),(8,_)] ⟨Nat.zero_le _,e1⟩ (by repeat (first|exact trivial|refine⟨rfl,?_⟩)) (by repeat (first|exact trivial|refine⟨rfl,?_⟩)) (by repeat (first|exact trivial|refine⟨rfl,?_⟩)) ?_;rintro⟨k,last⟩ ⟨hk,hq⟩ ih;dsimp only at*;refine .seq (.region rfl (ah (au _ _ _ _ _ _) (h:=.n0 (.seq ?_))));refine ao (ht:=fun hc=>?_) (hf:=fun hc=>?_);have hlt:k<z.secs.length:=by omega
 have hx:=wv hlt;have hd:z.secs.drop k=z.secs[k]::z.secs.drop (k+1):=List.drop_eq_getElem_cons hlt;rw[hd,eE]at hq;generalize z.secs[k]=n at hx hq;clear hd;refine .skip (.seq (.block (.seq (.region rfl (aw jH (hj:=fun hg=>⟨by omega,hx⟩) (h:=aM O3 (h:=aa (h:=.n0 (.seq (.seq (.region rfl (ae (h:=ae (h:=?_))))))))))))));refine ah (cb _ _ _ _ _ _) (h:=ae (h:=ae (h:=ah (bh _ _ _ _ _ _) (h:=aX (h:=.n0 ?_)))));refine aj (ht:=fun hc2=>?_) (hf:=fun hc2=>?_);rw[if_pos hc2]at hq;rw[←hq];refine .seq (.region rfl (aa (h:=.n0 ?_)));exact LGo.ret (ax Tryz.results135 hA hmd);rw[if_neg (by rw[hc2];simp)]at hq;refine .skip (.region rfl (ae (h:=aa (h:=.n0 (.inBlock (.region rfl (aG (h:=ae (h:=.n0 (.inLoop ?_))))))))));exact LGo.next _ (fun o h=>by have:=(hA o).1 h;omega) (by omega) (ih (k+1,n) ⟨by omega,hq⟩ (by omega)) (by repeat (first|exact trivial|refine⟨rfl,?_⟩)) ⟨rfl,trivial⟩;rw[List.drop_eq_nil_of_le (show z.secs.length≤k by omega),eE]at hq;rw[←hq];refine .exit rfl (.seq (.region rfl (ae (h:=ah (bh _ _ _ _ _ _) (h:=ae (h:=af jx (h:=ag O2 (h:=ah (bh _ _ _ _ _ _) (h:=aT (h:=ae (h:=af jx (h:=ag O2 (h:=af kP (h:=?_))))))))))))));refine ag O2 (h:=ah (au _ _ _ _ _ _) (h:=aT (h:=aa (h:=.n0 ?_))));exact LGo.ret (ax Tryz.results135 hA hmd)
theorem GA(x:GtG)(t:Int):PC Tryz.prog 137 [.agg (x.c.map LV.sv),.i t] (.i (lT x t)):=by
 refine⟨LC.of_go Tryz.func137 (c:=_) rfl (by kernel_rfl) (by rw[Tryz.ntmps137];simp) rfl rfl (by simp[LO.lt,an,LV.lt,aq]) (by simp) ?_⟩;intro B hA hmd;obtain⟨g,e0⟩:∃g,lT x t=g:=⟨_,rfl⟩;have e1:=e0;unfold lT at e1;rw[e0];refine .seq (.region rfl (bg (h:=aa (h:=.n0 (.seq (.block (.seq (.region rfl (ae (h:=af jx (h:=ag O2 (h:=ah (au _ _ _ _ _ _) (h:=aa (h:=?_))))))))))))));refine .n0 ?_;refine ao (ht:=fun hc=>?_) (hf:=fun hc=>?_);rw[if_pos hc]at e1;refine .seq (.region rfl (aa (h:=.n0 ?_)));rw[←e1];exact LGo.ret (ax Tryz.results137 hA hmd);rw[if_neg hc]at e1;refine .seq (.region rfl (ae (h:=af kP (h:=ag O2 (h:=ah (bh _ _ _ _ _ _) (h:=aa (h:=.n0 ?_)))))));refine ao (ht:=fun hc2=>?_) (hf:=fun hc2=>?_);rw[if_pos hc2]at e1;refine .seq (.region rfl (aa (h:=.n0 ?_)));rw[←e1];exact LGo.ret (ax Tryz.results137 hA hmd);rw[if_neg hc2]at e1;refine .skip (.inBlock (.seq (.region rfl (aa (h:=.n0 ?_)))));rw[←e1];exact LGo.ret (ax Tryz.results137 hA hmd)
theorem zM(x:GtG)(hx0:x.secs.length≤100000):PC Tryz.prog 134 [.agg (x.c.map LV.sv)] (.b (!fU x)):=by
 refine⟨LC.of_go Tryz.func134 (c:=_) rfl (by kernel_rfl) (by rw[Tryz.ntmps134];simp) rfl rfl (by simp[LO.lt,an,LV.lt,aq]) (by simp) ?_⟩;intro B hA hmd;refine .seq (.region rfl (bg (h:=aa (h:=.n0 (.seq (.region rfl (aB ri (h:=ai (es:=[_]) (fun _=>GO x hx0) (h:=bd (h:=aa (h:=.n0 ?_)))))))))));exact LGo.ret (ax Tryz.results134 hA hmd)
def jD{α:Type}(p:α→Bool):Nat→List α→Int
 |_,[]=>-1
 |k,x::xs=>if p x=true then(k:Int)else jD p (k+1) xs
theorem mf{α:Type}(p:α→Bool):∀(xs:List α) (k:Nat),decide (0≤jD p k xs)=xs.any p
 |[],k=>rfl
 |x::xs,k=>by
  rw[jD,List.any_cons];cases h:p x
  simpa using mf p xs (k+1);simp
theorem zW(l:List GtG)(hl:l.length≤100000)(hs:∀g∈l,g.secs.length≤100000):PC Tryz.prog 180 [.sv (.sl 3 (l.map GtG.c)),.fn (.func 134) [] []] (.i (jD (fun x=>!fU x) 0 l)):=by
 refine⟨LC.of_go Tryz.func180 (c:=_) rfl (by kernel_rfl) (by rw[Tryz.ntmps180];simp) rfl rfl (by simp[LO.lt,an,LV.lt,aq]) (by simp) ?_⟩;intro B hA hmd;obtain⟨g,e1⟩:∃g,jD (fun x=>!fU x) 0 l=g:=⟨_,rfl⟩;rw[e1];refine .seq (.region rfl (aa (h:=.n0 (.seq (.seq (.region rfl (ae (h:=aF rm (h:=?_)))))))));rw[List.length_map];refine ae (h:=.n0 (.block (.loop ?_)));refine ay (σ:=Nat) (fun x=>x≤l.length∧jD (fun x=>!fU x) x (l.drop x)=g) (fun x=>[(8,(true,.i (x:Nat)))]) (fun x=>[]) (fun x=>l.length-x) (0) [(0,_),(1,_),(7,_)] ⟨Nat.zero_le _,e1⟩ (by repeat (first|exact trivial|refine⟨rfl,?_⟩)) (by repeat (first|exact trivial|refine⟨rfl,?_⟩)) (by repeat (first|exact trivial|refine⟨rfl,?_⟩)) ?_;rintro k ⟨hk,hq⟩ ih;refine .seq (.region rfl (ah (au _ _ _ _ _ _) (h:=.n0 (.seq ?_))));refine ao (ht:=fun hc=>?_) (hf:=fun hc=>?_);have hlt:k<l.length:=by omega
 have hx:(l.map GtG.c)[((k:Nat):Int).toNat]?=some l[k].c:=by simp[hlt]
 have hd:l.drop k=l[k]::l.drop (k+1):=List.drop_eq_getElem_cons hlt;rw[hd,jD]at hq;have hx0:=hs l[k] (List.getElem_mem hlt);generalize l[k]=x at hx hq hx0;clear hd;refine .skip (.seq (.block (.seq (.region rfl (ae (h:=aa (h:=.n0 (.seq (.region rfl (ae (h:=ae (h:=ae (h:=aw wy (hj:=fun hg=>⟨by omega,hx⟩) (h:=?_))))))))))))));refine aR ri (h:=cH (m:=0) (avs:=[_]) (es:=[_]) (first:=[]) (cap:=[]) (zM x hx0).lc (hL:=jC) (h:=.n0 ?_));refine aj (ht:=fun hc2=>?_) (hf:=fun hc2=>?_);rw[if_pos hc2]at hq;rw[←hq];refine .seq (.region rfl (ae (h:=aa (h:=.n0 ?_))));exact LGo.ret (ax Tryz.results180 hA hmd);rw[if_neg (by rw[hc2];simp)]at hq;refine .skip (.inBlock (.region rfl (aG (h:=ae (h:=.n0 (.inLoop ?_))))));exact LGo.next _ (fun o h=>by have:=(hA o).1 h;omega) (by omega) (ih (k+1) ⟨by omega,hq⟩ (by omega)) (by repeat (first|exact trivial|refine⟨rfl,?_⟩)) (by repeat (first|exact trivial|refine⟨rfl,?_⟩));rw[List.drop_eq_nil_of_le (show l.length≤k by omega),jD]at hq;rw[←hq];refine .exit rfl (.seq (.region rfl (aa (h:=.n0 ?_))));exact LGo.ret (ax Tryz.results180 hA hmd)
theorem CH(l:List GtG)(hl:l.length≤100000)(hs:∀g∈l,g.secs.length≤100000):PC Tryz.prog 133 [.sv (.sl 3 (l.map GtG.c)),.fn (.func 134) [] []] (.b (l.any fun x=>!fU x)):=by
 refine⟨LC.of_go Tryz.func133 (c:=_) rfl (by kernel_rfl) (by rw[Tryz.ntmps133];simp) rfl rfl (by simp[LO.lt,an,LV.lt,aq]) (by simp) ?_⟩;intro B hA hmd;refine .seq (.region rfl (aa (h:=.n0 (.seq (.region rfl (ae (h:=ae (h:=ai (es:=[_,_]) (fun _=>zW l hl hs) (h:=ah (bh _ _ _ _ _ _) (h:=?_))))))))));rw[mf];refine aa (h:=.n0 ?_);exact LGo.ret (ax Tryz.results133 hA hmd)
theorem vH(l:List GtG)(hl:l.length≤100000)(hs:∀g∈l,g.secs.length≤100000):PC Tryz.prog 75 [.sv (.sl 3 (l.map GtG.c))] (.i (dS l)):=by
 refine⟨LC.of_go Tryz.func75 (c:=_) rfl (by kernel_rfl) (by rw[Tryz.ntmps75];simp) rfl rfl (by simp[LO.lt,an,LV.lt,aq]) (by simp) ?_⟩;intro B hA hmd;obtain⟨g,e0⟩:∃g,dS l=g:=⟨_,rfl⟩;have e1:=e0;unfold dS at e1;rw[e0];refine .seq (.region rfl (aa (h:=.n0 (.seq (.block (.seq (.region rfl (ae (h:=aF rm (h:=?_))))))))));rw[List.length_map];refine ah (aJ _ _ _ _ _ _) (h:=aa (h:=.n0 ?_));refine ao (ht:=fun hc=>?_) (hf:=fun hc=>?_);rw[if_pos hc]at e1;refine .seq (.region rfl (aa (h:=.n0 ?_)));rw[←e1];exact LGo.ret (ax Tryz.results75 hA hmd);rw[if_neg hc]at e1;refine .seq (.region rfl (ae (h:=aF rm (h:=?_))));rw[List.length_map];refine ah (av _ _ _ _ _ _) (h:=ae (h:=ae (h:=ai (es:=[_,_]) (fun _=>CH l (by omega) hs) (h:=aX (h:=aa (h:=.n0 ?_))))));refine aj (ht:=fun hc2=>?_) (hf:=fun hc2=>?_);rw[if_pos hc2]at e1;refine .seq (.region rfl (aa (h:=.n0 ?_)));rw[←e1];exact LGo.ret (ax Tryz.results75 hA hmd);rw[if_neg (by rw[hc2];simp)]at e1;refine .skip (.inBlock (.seq (.region rfl (aa (h:=.n0 ?_)))));rw[←e1];exact LGo.ret (ax Tryz.results75 hA hmd)
theorem F0{q:IntKind}{l:List Int}{j:Nat}(h:j<l.length):(ic q l)[((j:Nat):Int).toNat]?=some [.val (.int q l[j])]:=by
 rw[Int.toNat_natCast];exact pH (List.getElem?_eq_getElem h)
def rv:List Int→List Int→Int
 |[],[]=>0
 |[],_::_=>-1
 |_::_,[]=>1
 |a::l,b::m=>if kG a b=0 then rv l m else kG a b
theorem G2(a b:K3):rv [a.1,a.2.1,a.2.2] [b.1,b.2.1,b.2.2]=sU a b:=by
 unfold sU;simp only[rv];split;split;split;rename_i h;exact h.symm;rfl;rfl;rfl
theorem yC(n:Int):PC Tryz.prog 242 [.u n] (.b false):=by
 refine⟨LC.of_go Tryz.func242 (c:=_) rfl (by kernel_rfl) (by rw[Tryz.ntmps242];simp) rfl rfl (by simp[LO.lt,an,LV.lt,aq]) (by simp) ?_⟩;intro B hA hmd;refine .seq (.region rfl (aa (h:=.n0 (.seq (.region rfl (ae (h:=ae (h:=ah (aC _ _ _ _ _ _) (h:=aa (h:=.n0 (iV 2 false (hb:=by simp) (h:=?_))))))))))));exact LGo.ret (ax Tryz.results242 hA hmd)
theorem G3(a b:Int):PC Tryz.prog 213 [.u a,.u b] (.i (kG a b)):=by
 refine⟨LC.of_go Tryz.func213 (c:=_) rfl (by kernel_rfl) (by rw[Tryz.ntmps213];simp) rfl rfl (by simp[LO.lt,an,LV.lt,aq]) (by simp) ?_⟩;intro B hA hmd;obtain⟨g,e0⟩:∃g,kG a b=g:=⟨_,rfl⟩;have e1:=e0;unfold kG at e1;rw[e0];refine .seq (.region rfl (aa (h:=.n0 (.seq (.region rfl (ae (h:=ai (es:=[_]) (fun _=>yC _) (h:=aa (h:=.n0 (.seq (.region rfl (ae (h:=ai (es:=[_]) (fun _=>yC _) (h:=?_))))))))))))));refine aa (h:=.n0 (.seq (.seq (.region rfl (ae (h:=.n0 ?_))))));refine aj (ht:=fun hc=>by simp at hc) (hf:=fun hc=>?_);refine .skip (.seq (.seq (.region rfl (ae (h:=.n0 ?_)))));refine aj (ht:=fun hc2=>by simp at hc2) (hf:=fun hc2=>?_);refine .skip (.seq (.seq (.region rfl (ae (h:=ae (h:=ah (au _ _ _ _ _ _) (h:=.n0 ?_)))))));refine ao (ht:=fun hc3=>?_) (hf:=fun hc3=>?_);rw[if_pos hc3]at e1;refine .seq (.region rfl (aa (h:=.n0 ?_)));rw[←e1];exact LGo.ret (ax Tryz.results213 hA hmd);rw[if_neg hc3]at e1;refine .skip (.seq (.seq (.region rfl (ae (h:=ae (h:=ah (aJ _ _ _ _ _ _) (h:=.n0 ?_)))))));refine ao (ht:=fun hc4=>?_) (hf:=fun hc4=>?_);rw[if_pos hc4]at e1;refine .seq (.region rfl (aa (h:=.n0 ?_)));rw[←e1];exact LGo.ret (ax Tryz.results213 hA hmd);rw[if_neg hc4]at e1;refine .skip (.seq (.region rfl (aa (h:=.n0 ?_))));rw[←e1];exact LGo.ret (ax Tryz.results213 hA hmd)
theorem G1(l m:List Int)(hl:l.length≤1000)(hm:m.length≤1000):PC Tryz.prog 181 [.sv (.sl 1 (ic .u64 l)),.sv (.sl 1 (ic .u64 m))] (.i (rv l m)):=by
 refine⟨LC.of_go Tryz.func181 (c:=_) rfl (by kernel_rfl) (by rw[Tryz.ntmps181];simp) rfl rfl (by simp[LO.lt,an,LV.lt,aq]) (by simp) ?_⟩;intro B hA hmd;obtain⟨g,e1⟩:∃g,rv l m=g:=⟨_,rfl⟩;rw[e1];refine .seq (.region rfl (aa (h:=.n0 (.seq (.seq (.region rfl (ae (h:=aF AI (h:=?_)))))))));rw[bp];refine ae (h:=.n0 (.block (.loop ?_)));refine ay (σ:=Nat) (fun x=>x≤l.length∧x≤m.length∧rv (l.drop x) (m.drop x)=g) (fun x=>[(11,(true,.i (x:Nat)))]) (fun x=>[]) (fun x=>l.length-x) (0) [(0,_),(1,_),(9,_),(10,_)] ⟨Nat.zero_le _,Nat.zero_le _,e1⟩ (by repeat (first|exact trivial|refine⟨rfl,?_⟩)) (by repeat (first|exact trivial|refine⟨rfl,?_⟩)) (by repeat (first|exact trivial|refine⟨rfl,?_⟩)) ?_;rintro k ⟨hk,hkm,hq⟩ ih;refine .seq (.region rfl (ah (au _ _ _ _ _ _) (h:=.n0 (.seq ?_))));refine ao (ht:=fun hc=>?_) (hf:=fun hc=>?_);have hlt:k<l.length:=by omega
 have hx:=F0 (q:= .u64) hlt;have hd:l.drop k=l[k]::l.drop (k+1):=List.drop_eq_getElem_cons hlt;rw[hd]at hq;generalize l[k]=p at hx hq;clear hd;refine .skip (.seq (.block (.seq (.region rfl (ae (h:=aw AJ (hj:=fun hg=>⟨by omega,hx⟩) (h:=aM eP (h:=aa (h:=aa (h:=.n0 (.seq (.seq (.region rfl ?_)))))))))))));refine ae (h:=ae (h:=aF AI (h:=?_)));rw[bp];refine ah (bh _ _ _ _ _ _) (h:=.n0 ?_);refine ao (ht:=fun hc2=>?_) (hf:=fun hc2=>?_);rw[List.drop_eq_nil_of_le (show m.length≤k by omega),rv]at hq;rw[←hq];refine .seq (.region rfl (aa (h:=.n0 ?_)));exact LGo.ret (ax Tryz.results181 hA hmd);have hlt2:k<m.length:=by omega
 have hy:=F0 (q:= .u64) hlt2;have hd:m.drop k=m[k]::m.drop (k+1):=List.drop_eq_getElem_cons hlt2;rw[hd,rv]at hq;generalize m[k]=q at hy hq;clear hd;refine .skip (.seq (.region rfl (ae (h:=ae (h:=aw AJ (hj:=fun hg=>⟨by omega,hy⟩) (h:=aM eP (h:=aa (h:=.n0 (.seq (.region rfl (ae (h:=ae (h:=ai (es:=[_,_]) (fun _=>G3 p q) (h:=?_))))))))))))));refine aa (h:=.n0 (.seq (.region rfl (ae (h:=ah (aC _ _ _ _ _ _) (h:=.n0 ?_))))));refine aj (ht:=fun hc3=>?_) (hf:=fun hc3=>?_);rw[if_neg (by simpa using hc3)]at hq;rw[←hq];refine .seq (.region rfl (ae (h:=aa (h:=.n0 ?_))));exact LGo.ret (ax Tryz.results181 hA hmd);rw[if_pos (by simpa using hc3)]at hq;refine .skip (.inBlock (.region rfl (aG (h:=ae (h:=.n0 (.inLoop ?_))))));exact LGo.next _ (fun o h=>by have:=(hA o).1 h;omega) (by omega) (ih (k+1) ⟨by omega,by omega,hq⟩ (by omega)) (by repeat (first|exact trivial|refine⟨rfl,?_⟩)) (by repeat (first|exact trivial|refine⟨rfl,?_⟩));rw[List.drop_eq_nil_of_le (show l.length≤k by omega)]at hq;refine .exit rfl (.seq (.seq (.region rfl (ae (h:=aF AI (h:=?_))))));rw[bp];refine ae (h:=aF AI (h:=?_));rw[bp];refine ah (au _ _ _ _ _ _) (h:=.n0 ?_);refine ao (ht:=fun hc4=>?_) (hf:=fun hc4=>?_);have hd:m.drop k=m[k]::m.drop (k+1):=List.drop_eq_getElem_cons (by omega);rw[hd,rv]at hq;rw[←hq];refine .seq (.region rfl (aa (h:=.n0 ?_)));exact LGo.ret (ax Tryz.results181 hA hmd);rw[List.drop_eq_nil_of_le (show m.length≤k by omega),rv]at hq;rw[←hq];refine .skip (.seq (.region rfl (aa (h:=.n0 ?_))));exact LGo.ret (ax Tryz.results181 hA hmd)
theorem Fb(a b:K3):PC Tryz.prog 181 [.sv (.sl 1 (ic .u64 [a.1,a.2.1,a.2.2])),.sv (.sl 1 (ic .u64 [b.1,b.2.1,b.2.2]))] (.i (sU a b)):=by
 rw[←G2];exact G1 _ _ (by simp) (by simp)
theorem tn(x:GtE)(hx0:DA x.seat):PC Tryz.prog 79 [.agg (x.c.map LV.sv)] (.agg ((K3.v x.key).map LV.v)):=by
 refine⟨LC.of_go Tryz.func79 (c:=_) rfl (by kernel_rfl) (by rw[Tryz.ntmps79];simp) rfl rfl (by simp[LO.lt,an,LV.lt,aq]) (by simp) ?_⟩;intro B hA hmd;refine .seq (.region rfl (bg (h:=aD HB (h:=.n0 (.seq (.region rfl (af pM (h:=ag sL (h:=?_)))))))));unfold DA at hx0;refine bS Tryz.runUnderlying43 Tryz.runUnderlying55 (h:=af pL (h:=ag eP (h:=af wY (h:=ag eP (h:=qj Ij (is:=[0,1,2]) (xs:=[_,_,_]) (es:=[_,_,_]) (h:=ar Gf (h:=.n0 ?_)))))));exact LGo.ret (cM Tryz.results79 Gf hA hmd)
theorem Dc(a b:K3):PC Tryz.prog 138 [.agg ((K3.v a).map LV.v),.agg ((K3.v b).map LV.v)] (.i (sU a b)):=by
 refine⟨LC.of_go Tryz.func138 (c:=_) rfl (by kernel_rfl) (by rw[Tryz.ntmps138];simp) rfl rfl (by simp[LO.lt,an,LV.lt,aq]) (by simp) ?_⟩;intro B hA hmd;refine .seq (.region rfl (bg (h:=bg (h:=aa (h:=.n0 (.seq (.region rfl (qW FN (h:=qW FN (h:=Fs (rd:=[(1,.box 143 ((K3.v b).map LV.v)),(0,.box 143 ((K3.v a).map LV.v))]) (es:=[_,_]) (fun _=>Fb a b) (fun _ _ h=>h) (h:=aa (h:=Reg.nil ⟨fun _=>⟨aQ,by rfl,by rfl⟩,?_⟩))))))))))));exact LGo.ret (ax Tryz.results138 hA hmd)
theorem Bs(xs:List (List SV))(hsz:∀e∈xs,e.length=3)(hl:xs.length≤100000):LC Tryz.prog 114 0 [.sv (.sl 3 xs)] [] (.ref 0) [(0,.rs 42 3 xs)] 1:=by
 refine LC.of_go Tryz.func114 (c:=_) rfl (by kernel_rfl) (by rw[Tryz.ntmps114];simp) rfl rfl (by simp[LO.lt,an,LV.lt,aq]) (by simp) ?_;intro B hA hmd;refine .seq (.region rfl (aa (h:=.n0 (.seq (.seq (.region rfl (ae (h:=?_))))))));rcases Classical.em (xs=[])with h0|h0
 refine m5 (hT:=Tryz.underlying25) (h:=.n0 ?_);refine kh (ht:=?_) (hf:=?_);refine .seq (.region rfl (aa (h:=.n0 ?_)));subst h0;refine bZ 2 42 3 (h:=?_);exact LGo.ret (bF [0] (gI Tryz.results114) hA hmd);refine .skip (.seq (.region rfl (bo sZ (xs:=[]) (es:=[]) (hcs:=CellsOfs.nil) (h:=ae (h:=aO sZ (hs:=SrcOk.sl Tryz.underlying25 (hsz)) (hlen:=by simp;omega) (h:=aa (h:=.n0 ?_)))))));exact LGo.ret (bF [1] (gI Tryz.results114) hA hmd);refine k8 false (hT:=Tryz.underlying25) (hne:=fun _=>h0) (h:=.n0 ?_);refine aj (ht:=fun hc2=>by simp at hc2) (hf:=fun hc2=>?_);refine .skip (.seq (.region rfl (bo sZ (xs:=[]) (es:=[]) (hcs:=CellsOfs.nil) (h:=ae (h:=aO sZ (hs:=SrcOk.sl Tryz.underlying25 (hsz)) (hlen:=by simp;omega) (h:=aa (h:=.n0 ?_)))))));exact LGo.ret (bF [1] (gI Tryz.results114) hA hmd)
theorem G5(xs:List (List SV))(hsz:∀e∈xs,e.length=5)(hl:xs.length≤100000):LC Tryz.prog 136 0 [.sv (.sl 5 xs)] [] (.ref 0) [(0,.rs 141 5 xs)] 1:=by
 refine LC.of_go Tryz.func136 (c:=_) rfl (by kernel_rfl) (by rw[Tryz.ntmps136];simp) rfl rfl (by simp[LO.lt,an,LV.lt,aq]) (by simp) ?_;intro B hA hmd;refine .seq (.region rfl (aa (h:=.n0 (.seq (.seq (.region rfl (ae (h:=?_))))))));rcases Classical.em (xs=[])with h0|h0
 refine m5 (hT:=Tryz.underlying75) (h:=.n0 ?_);refine kh (ht:=?_) (hf:=?_);refine .seq (.region rfl (aa (h:=.n0 ?_)));subst h0;refine bZ 2 141 5 (h:=?_);exact LGo.ret (bF [0] (gI Tryz.results136) hA hmd);refine .skip (.seq (.region rfl (bo zi (xs:=[]) (es:=[]) (hcs:=CellsOfs.nil) (h:=ae (h:=aO zi (hs:=SrcOk.sl Tryz.underlying75 (hsz)) (hlen:=by simp;omega) (h:=aa (h:=.n0 ?_)))))));exact LGo.ret (bF [1] (gI Tryz.results136) hA hmd);refine k8 false (hT:=Tryz.underlying75) (hne:=fun _=>h0) (h:=.n0 ?_);refine aj (ht:=fun hc2=>by simp at hc2) (hf:=fun hc2=>?_);refine .skip (.seq (.region rfl (bo zi (xs:=[]) (es:=[]) (hcs:=CellsOfs.nil) (h:=ae (h:=aO zi (hs:=SrcOk.sl Tryz.underlying75 (hsz)) (hlen:=by simp;omega) (h:=aa (h:=.n0 ?_)))))));exact LGo.ret (bF [1] (gI Tryz.results136) hA hmd)
def Hv(l:List GtG):Prop:=l.length≤100000∧∀g∈l,g.secs.length≤100000
def DB(s:GtS):Prop:=Hv s.gates∧s.ents.length≤100000∧∀x∈s.ents,DA x.seat
theorem uL(l:List GtG)(k:Nat)(g:GtG)(h:l[k]?=some g):(l.map GtG.c).set k (g.c.set 0 (.sl 1 (ic .i64 g.secs)))=l.map GtG.c:=by
 have:g.c.set 0 (.sl 1 (ic .i64 g.secs))=g.c:=rfl;rw[this,←List.map_set];congr 1;obtain⟨hk,rfl⟩:=List.getElem?_eq_some_iff.1 h;exact List.set_getElem_self hk
theorem yH(l:List GtG):∀e∈l.map GtG.c,e.length=3:=by intro e he;obtain⟨g,_,rfl⟩:=List.mem_map.1 he;rfl
theorem yK(l:List GtE):∀e∈l.map GtE.c,e.length=5:=by intro e he;obtain⟨g,_,rfl⟩:=List.mem_map.1 he;rfl
theorem p9(xs:List (List SV))(hsz:∀e∈xs,e.length=1)(hl:xs.length≤100000):PC Tryz.prog 113 [.sv (.sl 1 xs)] (.sv (.sl 1 xs)):=by
 refine⟨LC.of_go Tryz.func113 (c:=_) rfl (by kernel_rfl) (by rw[Tryz.ntmps113];simp) rfl rfl (by simp[LO.lt,an,LV.lt,aq]) (by simp) ?_⟩;intro B hA hmd;refine .seq (.region rfl (aa (h:=.n0 (.seq (.seq (.region rfl (ae (h:=?_))))))));rcases Classical.em (xs=[])with h0|h0
 refine m5 (hT:=Tryz.underlying38) (h:=.n0 ?_);refine kh (ht:=?_) (hf:=?_);refine .seq (.region rfl (aa (h:=.n0 ?_)));subst h0;refine bP 2 1 (h:=?_);exact LGo.ret (ax Tryz.results113 hA hmd);refine .skip (.seq (.region rfl (bo fa (xs:=[]) (es:=[]) (hcs:=CellsOfs.nil) (h:=ae (h:=aO fa (hs:=SrcOk.sl Tryz.underlying38 (hsz)) (hlen:=by simp;omega) (h:=aa (h:=.n0 (dG 2 (h:=?_)))))))));exact LGo.ret (ax Tryz.results113 hA hmd);refine k8 false (hT:=Tryz.underlying38) (hne:=fun _=>h0) (h:=.n0 ?_);refine aj (ht:=fun hc2=>by simp at hc2) (hf:=fun hc2=>?_);refine .skip (.seq (.region rfl (bo fa (xs:=[]) (es:=[]) (hcs:=CellsOfs.nil) (h:=ae (h:=aO fa (hs:=SrcOk.sl Tryz.underlying38 (hsz)) (hlen:=by simp;omega) (h:=aa (h:=.n0 (dG 2 (h:=?_)))))))));exact LGo.ret (ax Tryz.results113 hA hmd)
theorem Fc(s:GtS)(hs:DB s):LC Tryz.prog 76 0 [.agg (s.c.map LV.sv)] [] (.agg [.sv (.sl 3 (s.gates.map GtG.c)),.ref 0]) [(0,.rs 141 5 (s.ents.map GtE.c))] 1:=by
 refine LC.of_go Tryz.func76 (c:=_) rfl (by kernel_rfl) (by rw[Tryz.ntmps76];simp) rfl rfl (by simp[LO.lt,an,LV.lt,aq]) (by simp) ?_;intro B hA hmd;obtain⟨⟨hg1,hg2⟩,he1,he2⟩:=hs;refine .seq (.region rfl (bg (h:=aD Dz (h:=.n0 (.seq (.region rfl (af dz (h:=ag gQ (h:=aK (es:=[_]) [] (Bs (s.gates.map GtG.c) (yH _) (by rw[List.length_map];exact hg1)) (h:=af eK (h:=ag rH (h:=aK (es:=[_]) [] (G5 (s.ents.map GtE.c) (yK _) (by rw[List.length_map];exact he1)) (h:=af dz (h:=?_))))))))))))));refine aA gQ (h:=af eK (h:=aA rH (h:=Reg.nil ⟨fun _=>⟨aQ,by rfl,by rfl⟩,.seq (.seq (.region rfl (af dz (h:=ag gQ (h:=eX rm (h:=?_))))))⟩)));rw[List.length_map];refine ae (h:=.n0 (.block (.loop ?_)));refine ay (σ:=Nat) (fun x=>x≤s.gates.length) (fun x=>[(15,(true,.i (x:Nat)))]) (fun x=>[(0,.box 77 [.ref 2,.ref 3]),(1,.box 77 [.v (.slice none 0 0),.v (.slice none 0 0)]),(2,.rs 42 3 (s.gates.map GtG.c)),(3,.rs 141 5 (s.ents.map GtE.c))]) (fun x=>s.gates.length-x) (0) [(1,_),(2,_),(14,_)] (Nat.zero_le _) (by repeat (first|exact trivial|refine⟨rfl,?_⟩)) (by repeat (first|exact trivial|refine⟨rfl,?_⟩)) (by repeat (first|exact trivial|refine⟨rfl,?_⟩)) ?_;rintro k hk ih;refine .seq (.region rfl (ah (au _ _ _ _ _ _) (h:=.n0 (.seq ?_))));refine ao (ht:=fun hc=>?_) (hf:=fun hc=>?_);have hlt:k<s.gates.length:=by omega
 have hx0:s.gates[k]?=some s.gates[k]:=List.getElem?_eq_getElem hlt;have hx:(s.gates.map GtG.c)[k]?=some s.gates[k].c:=by simp[hlt]
 have hsl:=hg2 s.gates[k] (List.getElem_mem hlt);generalize s.gates[k]=g at hx hx0 hsl;refine .skip (.seq (.block (.seq (.region rfl (ae (h:=aa (h:=.n0 (.region rfl (af dz (h:=ag gQ (h:=ae (h:=af dz (h:=ag gQ (h:=?_))))))))))))));refine ae (h:=ec wy (hj:=fun _=>⟨by omega,by rw[List.length_map];omega⟩) (h:=af ez (h:=kB gP k 0 (ev:=g.c) (hj:=fun _=>⟨hx,rfl⟩) (h:=ai (es:=[_]) (fun _=>p9 (ic .i64 g.secs) (pG _ _) (by rw[bp];exact hsl)) (h:=ec wy (hj:=fun _=>⟨by omega,by rw[List.length_map];omega⟩) (h:=af ez (h:=jf gP k 0 g.c (hj:=hx) (h:=?_))))))));rw[uL s.gates k g hx0];refine Reg.nil ⟨fun _=>⟨aQ,by rfl,by rfl⟩,.inBlock (.region rfl (aG (h:=ae (h:=.n0 (.inLoop ?_)))))⟩;exact LGo.next _ (fun o h=>by have:=(hA o).1 h;omega) (by omega) (ih (k+1) (by omega) (by omega)) (by repeat (first|exact trivial|refine⟨rfl,?_⟩)) ⟨rfl,rfl,rfl,rfl,trivial⟩;refine bJ 0 0 (h:=LGo.frzBx 0 (h:=.exit rfl (.seq (.region rfl (aB nS (h:=ar nS (h:=.n0 ?_)))))));exact LGo.ret (bF [3] (AQ Tryz.results76 nS) hA hmd)
def pw(l:List GtE)(k:Nat):Option GtE:=if k=0 then none else some (l.getD (k-1) default)
theorem qw{l:List GtE}{k:Nat}(h:k<l.length):pw l (k+1)=some l[k]:=by unfold pw;rw[if_neg (by omega)];simp[h]
theorem vK(gs:List GtG)(l:List GtE)(k:Nat)(x:GtE):DL gs (pw l k) x=(((decide (x.gate<0)||decide (x.gate≥gs.length))||!decide (lT (gs.getD x.gate.toNat default) x.time=0))||(decide ((k:Int)>0)&&decide (sU (l.getD (k-1) default).key x.key≥0))):=by
 unfold DL pw;by_cases h:k=0;subst h;simp;rw[if_neg h];simp only[show((k:Int)>0)from by omega,decide_true,Bool.true_and]
theorem FH{l:List GtE}{k:Nat}(h:0<k)(hk:k≤l.length):(l.map GtE.c)[((k:Int)-1).toNat]?=some (l.getD (k-1) default).c:=by
 have hlt:k-1<l.length:=by omega
 rw[show((k:Int)-1).toNat=k-1 from by omega,List.getElem?_map,List.getElem?_eq_getElem hlt,List.getD_eq_getElem?_getD,List.getElem?_eq_getElem hlt];rfl
theorem FD{l:List GtG}{n:Int}(h0:0≤n)(h:n<l.length):(l.map GtG.c)[n.toNat]?=some (l.getD n.toNat default).c:=by
 have hlt:n.toNat<l.length:=by omega
 rw[List.getElem?_map,List.getElem?_eq_getElem hlt,List.getD_eq_getElem?_getD,List.getElem?_eq_getElem hlt];rfl
theorem D3{l:List GtE}(h:∀x∈l,DA x.seat)(k:Nat):DA (l.getD k default).seat:=by
 rw[List.getD_eq_getElem?_getD];by_cases hk:k<l.length;rw[List.getElem?_eq_getElem hk];exact h _ (List.getElem_mem hk);rw[List.getElem?_eq_none (by omega)];unfold DA;decide
theorem sy(s:GtS)(hs:DB s):PC Tryz.prog 77 [.agg (s.c.map LV.sv)] (.i (dp s)):=by
 refine⟨LC.of_go Tryz.func77 (c:=_) rfl (by kernel_rfl) (by rw[Tryz.ntmps77];simp) rfl rfl (by simp[LO.lt,an,LV.lt,aq]) (by simp) ?_⟩;intro B hA hmd;obtain⟨⟨hg1,hg2⟩,he1,he2⟩:=hs;obtain⟨g,e0⟩:∃g,dp s=g:=⟨_,rfl⟩;have e1:=e0;unfold dp at e1;rw[e0];refine .seq (.region rfl (bg (h:=aa (h:=.n0 (.seq (.seq (.region rfl (af dz (h:=ag gQ (h:=ai (es:=[_]) (fun _=>vH s.gates hg1 hg2) (h:=aa (h:=.n0 (.seq ?_)))))))))))));refine .region rfl (ae (h:=ah (aC _ _ _ _ _ _) (h:=.n0 ?_)));refine aj (ht:=fun hc=>?_) (hf:=fun hc=>?_);rw[if_pos (by simpa using hc)]at e1;rw[←e1];refine .seq (.region rfl (ae (h:=aa (h:=.n0 ?_))));exact LGo.ret (ax Tryz.results77 hA hmd);rw[if_neg (by simpa using hc)]at e1;refine .skip (.seq (.seq (.region rfl (af eK (h:=ag rH (h:=aF AD (h:=?_)))))));rw[List.length_map];refine ah (aJ _ _ _ _ _ _) (h:=.n0 ?_);refine ao (ht:=fun hc2=>?_) (hf:=fun hc2=>?_);rw[if_pos (by omega)]at e1;rw[←e1];refine .seq (.region rfl (aa (h:=.n0 ?_)));exact LGo.ret (ax Tryz.results77 hA hmd);rw[if_neg (by omega)]at e1;refine .skip (.seq (.seq (.region rfl (af eK (h:=ag rH (h:=aF AD (h:=?_)))))));rw[List.length_map];refine ae (h:=.n0 (.block (.loop ?_)));refine ay (σ:=Nat) (fun x=>x≤s.ents.length∧(if oa s.gates (pw s.ents x) (s.ents.drop x)=true then(6:Int)else 0)=g) (fun x=>[(19,(true,.i (x:Nat)))]) (fun x=>[(0,.box 77 (s.c.map LV.sv))]) (fun x=>s.ents.length-x) (0) [(1,_),(17,_),(18,_)] ⟨Nat.zero_le _,e1⟩ (by repeat (first|exact trivial|refine⟨rfl,?_⟩)) (by repeat (first|exact trivial|refine⟨rfl,?_⟩)) (by repeat (first|exact trivial|refine⟨rfl,?_⟩)) ?_;rintro k ⟨hk,hq⟩ ih;refine .seq (.region rfl (ah (au _ _ _ _ _ _) (h:=.n0 (.seq ?_))));refine ao (ht:=fun hc3=>?_) (hf:=fun hc3=>?_);have hlt:k<s.ents.length:=by omega
 have hx:(s.ents.map GtE.c)[((k:Nat):Int).toNat]?=some s.ents[k].c:=by simp[hlt]
 have hd:s.ents.drop k=s.ents[k]::s.ents.drop (k+1):=List.drop_eq_getElem_cons hlt;have hxs:=he2 s.ents[k] (List.getElem_mem hlt);have hpv:=qw hlt;rw[hd,oa,vK]at hq;generalize s.ents[k]=x at hx hq hxs hpv;clear hd;refine .skip (.seq (.block (.seq (.region rfl (ae (h:=aw FV (hj:=fun hg=>⟨by omega,hx⟩) (h:=aR mZ (h:=aD F5 (h:=aa (h:=ar mZ (h:=.n0 (.seq (.region rfl ?_)))))))))))));refine af k9 (h:=ag O3 (h:=ah (au _ _ _ _ _ _) (h:=ae (h:=af k9 (h:=ag O3 (h:=af dz (h:=ag gQ (h:=aF rm (h:=?_)))))))));rw[List.length_map];refine ah (bh _ _ _ _ _ _) (h:=aX (h:=ae (h:=af dz (h:=ag gQ (h:=af k9 (h:=ag O3 (h:=aw wy (hj:=fun hg=>⟨by(simp at hg;omega),(by simp at hg;exact FD (by omega) (by omega))⟩) (h:=aR ri (h:=af wX (h:=ag O2 (h:=ai (es:=[_,_]) (fun _=>GA (s.gates.getD x.gate.toNat default) x.time) (h:=ah (aC _ _ _ _ _ _) (h:=aX (h:=?_))))))))))))));refine ae (h:=ae (h:=ah (aJ _ _ _ _ _ _) (h:=ae (h:=af eK (h:=ag rH (h:=ae (h:=dD (h:=aw FV (hj:=fun hg=>⟨by(simp at hg;omega),(by simp at hg;exact FH (by omega) (by omega))⟩) (h:=aR mZ (h:=ai (es:=[_]) (fun _=>tn (s.ents.getD (k-1) default) (D3 he2 _)) (h:=aB mZ (h:=ai (es:=[_]) (fun _=>tn x hxs) (h:=ai (es:=[_,_]) (fun _=>Dc (s.ents.getD (k-1) default).key x.key) (h:=?_))))))))))))));refine ah (bh _ _ _ _ _ _) (h:=aT (hgy:=fun hg h=>by rw[h,hg];rfl) (h:=aX (h:=Reg.nil ⟨fun _=>⟨aQ,by rfl,by rfl⟩,?_⟩)));refine aj (ht:=fun hc4=>?_) (hf:=fun hc4=>?_);rw[hc4,Bool.true_or,if_pos rfl]at hq;rw[←hq];refine .seq (.region rfl (aa (h:=.n0 ?_)));exact LGo.ret (ax Tryz.results77 hA hmd);rw[hc4,Bool.false_or,←hpv]at hq;refine .skip (.inBlock (.region rfl (aG (h:=ae (h:=.n0 (.inLoop ?_))))));exact LGo.next _ (fun o h=>by have:=(hA o).1 h;omega) (by omega) (ih (k+1) ⟨by omega,hq⟩ (by omega)) (by repeat (first|exact trivial|refine⟨rfl,?_⟩)) ⟨rfl,trivial⟩;rw[List.drop_eq_nil_of_le (show s.ents.length≤k by omega),oa]at hq;rw[←hq];refine .exit rfl (.seq (.region rfl (aa (h:=.n0 ?_))));exact LGo.ret (ax Tryz.results77 hA hmd)
theorem Dv{P:Program}{f:FuncId}{m k:Nat}{lvs lvs':List LV}{out:LV}{Hi Ho:List (Nat×LO)}(h:LC P f m lvs Hi out Ho k)(hl:an m lvs'=true)(hv:∀cx w vs,Vs cx w lvs' vs→Vs cx w lvs vs):LC P f m lvs' Hi out Ho k:=
 ⟨h.entr,hl,h.rng,h.hlt,h.hos,fun cx w vs hA hH ham hvs=>h.go cx w vs hA hH ham (hv cx w vs hvs)⟩
theorem rN{cx:Cx}{w:World}{x:LV}(sz:Nat){vs:List Value}(h:Vs cx w [.agg [x,.v (.slice none 0 0)]] vs):Vs cx w [.agg [x,.sv (.sl sz [])]] vs:=by
 simp only[Vs,V]at h⊢;obtain⟨v,r,rfl,⟨us,rfl,a,r1,rfl,h1,b,r2,rfl,h2,rfl⟩,rfl⟩:=h;refine⟨_,_,rfl,⟨_,rfl,_,_,rfl,h1,_,_,rfl,?_,rfl⟩,rfl⟩;simp only[VS]at h2⊢;exact .inl ⟨.inl h2,trivial⟩
theorem C5(l:List GtG)(hl:l.length≤100000)(hs:∀g∈l,g.secs.length≤100000):LC Tryz.prog 76 0 [.agg [.sv (.sl 3 (l.map GtG.c)),.v (.slice none 0 0)]] [] (.agg [.sv (.sl 3 (l.map GtG.c)),.ref 0]) [(0,.rs 141 5 [])] 1:=
 Dv (Fc ⟨l,[]⟩ ⟨⟨hl,hs⟩,by simp,by simp⟩) (by rfl) (fun _ _ _ h=>rN 5 h)
theorem Bl(l:List GtG)(hl:l.length≤100000)(hs:∀g∈l,g.secs.length≤100000):PC Tryz.prog 26 [.sv (.sl 3 (l.map GtG.c))] (.tup [.agg ((kU l).1.c.map LV.sv),.i (kU l).2]):=by
 refine⟨LC.of_go Tryz.func26 (c:=_) rfl (by kernel_rfl) (by rw[Tryz.ntmps26];simp) rfl rfl (by simp[LO.lt,an,LV.lt,aq]) (by simp) ?_⟩;intro B hA hmd;obtain⟨g,e0⟩:∃g,kU l=g:=⟨_,rfl⟩;have e1:=e0;unfold kU at e1;rw[e0];refine .seq (.region rfl (aD Dz (h:=aa (h:=.n0 (.seq (.seq (.region rfl (ae (h:=ai (es:=[_]) (fun _=>vH l hl hs) (h:=aa (h:=.n0 (.seq (.region rfl ?_)))))))))))));refine ae (h:=ah (aC _ _ _ _ _ _) (h:=.n0 ?_));refine aj (ht:=fun hc=>?_) (hf:=fun hc=>?_);rw[if_pos (by simpa using hc)]at e1;rw[←e1];refine .seq (.region rfl (br zg (is:=[]) (xs:=[]) (es:=[]) (h:=ae (h:=ar nS (h:=aa (h:=.n0 (aS 0 0 42 3 (h:=LGo.frzBx 0 (h:=aS 0 1 141 5 (h:=LGo.frzBx 0 (h:=?_)))))))))));exact LGo.ret (cy Tryz.results26 nS hA hmd);rw[if_neg (by simpa using hc)]at e1;rw[←e1];refine .skip (.seq (.region rfl (ae (h:=br zg (is:=[0]) (xs:=[_]) (es:=[_]) (h:=aK (es:=[_]) [] (C5 l hl hs) (h:=ar nS (h:=aa (h:=.n0 (bJ 0 1 (h:=LGo.frzBx 0 (h:=?_)))))))))));exact LGo.ret (cy Tryz.results26 nS hA hmd)
def k6(k:Int):Bool×Bool×Int:=if nT k=[]then(false,false,2)else(e9 k 3,e9 k 4,0)
theorem Cr(kd:Int):PC Tryz.prog 214 [.i kd] (.tup [.b (k6 kd).1,.b (k6 kd).2.1,.i (k6 kd).2.2]):=by
 refine⟨LC.of_go Tryz.func214 (c:=_) rfl (by kernel_rfl) (by rw[Tryz.ntmps214];simp) rfl rfl (by simp[LO.lt,an,LV.lt,aq]) (by simp) ?_⟩;intro B hA hmd;obtain⟨g,e0⟩:∃g,k6 kd=g:=⟨_,rfl⟩;have e1:=e0;unfold k6 at e1;rw[e0];refine .seq (.region rfl (aa (h:=aa (h:=aa (h:=.n0 (.seq (.seq (.region rfl (ae (h:=ai (es:=[_]) (fun _=>yb kd) (h:=ah (bH _ _ _ _ _) (h:=.n0 ?_))))))))))));refine ao (ht:=fun hc=>?_) (hf:=fun hc=>?_);rw[if_pos hc]at e1;refine .seq (.region rfl (aa (h:=aa (h:=aa (h:=.n0 ?_)))));rw[←e1];exact LGo.ret (iQ Tryz.results214 hA hmd);rw[if_neg hc]at e1;refine .skip (.seq (.region rfl (ae (h:=ai (es:=[_,_]) (fun _=>pI kd _) (h:=ae (h:=ai (es:=[_,_]) (fun _=>pI kd _) (h:=aa (h:=aa (h:=aa (h:=.n0 ?_))))))))));rw[←e1];exact LGo.ret (iQ Tryz.results214 hA hmd)
def px(l:List Int)(k:Nat):Int:=if k=0 then-1 else l.getD (k-1) 0
theorem xx{l:List Int}{k:Nat}(h:k<l.length):px l (k+1)=l[k]:=by unfold px;rw[if_neg (by omega)];simp[h]
theorem zZ{z:GtG}(h:((decide ((z.secs.length:Int)=0)||decide (z.fr<0))||decide (z.fr≥z.to))=true):fU z=false:=by
 rw[ku];simp only[Bool.or_eq_true,decide_eq_true_eq]at h;rcases h with(h|h)|h
 have:z.secs=[]:=List.length_eq_zero_iff.1 (by omega);rw[this];rfl;cases eE z.secs (-1)with
 |none=>rfl
 |some a=>unfold sS;rw[decide_eq_false (show¬0≤z.fr by omega)];simp
 cases eE z.secs (-1)with
 |none=>rfl
 |some a=>unfold sS;rw[decide_eq_false (show¬z.fr<z.to by omega)];simp
theorem CI{l:List Int}{k:Nat}{n:Int}(h:0<k→0≤px l k):(decide (n≤px l k)||decide (8≤n))=((decide (n<0)||decide (n≥8))||(decide ((k:Int)>0)&&decide (n≤l.getD (k-1) 0))):=by
 rw[Bool.eq_iff_iff];simp only[Bool.or_eq_true,Bool.and_eq_true,decide_eq_true_eq];unfold px at h⊢;by_cases h0:k=0;subst h0;simp;omega;rw[if_neg h0]at h⊢;have:=h (by omega);omega
theorem EL{l:List Int}{k:Nat}(h:0<k)(hk:k≤l.length):(ic .i64 l)[((k:Int)-1).toNat]?=some [.val (.int .i64 (l.getD (k-1) 0))]:=by
 have hlt:k-1<l.length:=by omega
 rw[show((k:Int)-1).toNat=k-1 from by omega,List.getD_eq_getElem?_getD,List.getElem?_eq_getElem hlt];exact pH (List.getElem?_eq_getElem hlt)
def Hh(a b:GtE):Bool:=if(!decide (a.seat=b.seat))=true then decide (a.seat<b.seat)else if(!decide (a.epoch=b.epoch))=true then decide (a.epoch<b.epoch)else decide (a.serial<b.serial)
theorem EF(a b:GtE):Hh a b=decide (sU a.key b.key<0):=by
 rw[Bool.eq_iff_iff,decide_eq_true_eq,Fa];unfold Hh IA GtE.key;dsimp only;split;rename_i h;simp only[Bool.not_eq_true',decide_eq_false_iff_not,decide_eq_true_eq]at h⊢;omega;rename_i h;split;rename_i h2;simp only[Bool.not_eq_true',decide_eq_false_iff_not,decide_eq_true_eq,Classical.not_not]at h h2⊢;omega;rename_i h2;simp only[Bool.not_eq_true',decide_eq_false_iff_not,decide_eq_true_eq,Classical.not_not]at h h2⊢;omega
theorem EA(g:GtG)(t:Int):(decide (t≥g.fr)&&decide (t<g.to))=decide (lT g t=0):=by
 rw[Bool.eq_iff_iff];simp only[Bool.and_eq_true,decide_eq_true_eq];unfold lT
 (repeat' split)<;>omega
theorem EP(z:GtG)(hz:z.secs.length≤100000):PC Tryz.prog 148 [.agg (z.c.map LV.sv)] (.b (fU z)):=by
 refine⟨LC.of_go Tryz.func148 (c:=_) rfl (by kernel_rfl) (by rw[Tryz.ntmps148];simp) rfl rfl (by simp[LO.lt,an,LV.lt,aq]) (by simp) ?_⟩;intro B hA hmd;obtain⟨g,e0⟩:∃g,fU z=g:=⟨_,rfl⟩;have e1:=e0;rw[ku]at e1;rw[e0];refine .seq (.region rfl (bg (h:=aa (h:=.n0 (.seq (.seq (.region rfl (af ez (h:=ag gP (h:=aF iE (h:=?_)))))))))));rw[bp];refine ah (av _ _ _ _ _ _) (h:=ae (h:=af jx (h:=ag O2 (h:=ah (au _ _ _ _ _ _) (h:=aX (h:=ae (h:=af jx (h:=ag O2 (h:=af kP (h:=ag O2 (h:=ah (bh _ _ _ _ _ _) (h:=aX (h:=.n0 ?_)))))))))))));refine aj (ht:=fun hc=>?_) (hf:=fun hc=>?_);rw[zZ hc]at e0;rw[←e0];refine .seq (.region rfl (aa (h:=.n0 ?_)));exact LGo.ret (ax Tryz.results148 hA hmd);simp only[Bool.or_eq_false_iff,decide_eq_false_iff_not]at hc;refine .skip (.seq (.seq (.region rfl (aa (h:=.n0 (.block (.loop ?_)))))));refine ay (σ:=Nat) (fun x=>x≤z.secs.length∧(0<x→0≤px z.secs x)∧sS z (eE (z.secs.drop x) (px z.secs x))=g) (fun x=>[(3,(true,.i (x:Nat)))]) (fun x=>[(0,.box 42 (z.c.map LV.sv))]) (fun x=>z.secs.length-x) (0) [(1,_)] ⟨Nat.zero_le _,fun h=>absurd h (by omega),e1⟩ (by repeat (first|exact trivial|refine⟨rfl,?_⟩)) (by repeat (first|exact trivial|refine⟨rfl,?_⟩)) (by repeat (first|exact trivial|refine⟨rfl,?_⟩)) ?_;rintro k ⟨hk,hl0,hq⟩ ih;refine .seq (.seq (.region rfl (ae (h:=af ez (h:=ag gP (h:=aF iE (h:=?_)))))));rw[bp];refine ah (au _ _ _ _ _ _) (h:=.n0 ?_);refine ao (ht:=fun hc2=>?_) (hf:=fun hc2=>?_);have hlt:k<z.secs.length:=by omega
 have hx:=wv hlt;have hls:=xx hlt;have hd:z.secs.drop k=z.secs[k]::z.secs.drop (k+1):=List.drop_eq_getElem_cons hlt;rw[hd,eE,CI hl0]at hq;generalize z.secs[k]=n at hx hq hls;clear hd;refine .skip (.seq (.block (.seq (.region rfl (af ez (h:=ag gP (h:=ae (h:=aw jH (hj:=fun hg=>⟨by omega,hx⟩) (h:=aM O3 (h:=aa (h:=.n0 (.seq (.region rfl ?_)))))))))))));refine ae (h:=ah (au _ _ _ _ _ _) (h:=ae (h:=ae (h:=ah (bh _ _ _ _ _ _) (h:=aX (h:=ae (h:=ae (h:=ah (aJ _ _ _ _ _ _) (h:=ae (h:=ae (h:=af ez (h:=ag gP (h:=ae (h:=?_))))))))))))));refine dD (h:=aw jH (hj:=fun hg=>⟨by(simp at hg;omega),(by simp at hg;exact EL (by omega) (by omega))⟩) (h:=aM O3 (h:=ah (cb _ _ _ _ _ _) (h:=aT (hgy:=fun hg h=>by rw[h,hg];rfl) (h:=aX (h:=.n0 ?_))))));refine aj (ht:=fun hc3=>?_) (hf:=fun hc3=>?_);rw[hc3,if_pos rfl]at hq;rw[←hq];rw[show sS z none=false from rfl];refine .seq (.region rfl (aa (h:=.n0 ?_)));exact LGo.ret (ax Tryz.results148 hA hmd);rw[hc3,if_neg (by simp),←hls]at hq;simp only[Bool.or_eq_false_iff,decide_eq_false_iff_not]at hc3;refine .skip (.inBlock (.region rfl (ae (h:=aG (h:=aa (h:=.n0 (.inLoop ?_)))))));exact LGo.next _ (fun o h=>by have:=(hA o).1 h;omega) (by omega) (ih (k+1) ⟨by omega,fun _=>by omega,hq⟩ (by omega)) (by repeat (first|exact trivial|refine⟨rfl,?_⟩)) ⟨rfl,trivial⟩;rw[List.drop_eq_nil_of_le (show z.secs.length≤k by omega),eE]at hq;have hl1:=hl0 (by omega);rw[sS,decide_eq_true hl1,decide_eq_true (show 0≤z.fr by omega),decide_eq_true (show z.fr<z.to by omega)]at hq;rw[←hq];rw[show((true&&true)&&true)=true from rfl];refine .exit rfl (.seq (.region rfl (aa (h:=.n0 ?_))));exact LGo.ret (ax Tryz.results148 hA hmd)
theorem vn(l:List GtG)(hl:l.length≤100000)(hs:∀g∈l,g.secs.length≤100000):PC Tryz.prog 92 [.sv (.sl 3 (l.map GtG.c))] (.i (dS l)):=by
 refine⟨LC.of_go Tryz.func92 (c:=_) rfl (by kernel_rfl) (by rw[Tryz.ntmps92];simp) rfl rfl (by simp[LO.lt,an,LV.lt,aq]) (by simp) ?_⟩;intro B hA hmd;obtain⟨g,e0⟩:∃g,dS l=g:=⟨_,rfl⟩;have e1:=e0;unfold dS at e1;rw[e0];refine .seq (.region rfl (aa (h:=.n0 (.seq (.seq (.region rfl (ae (h:=aF rm (h:=?_)))))))));rw[List.length_map];refine ah (aJ _ _ _ _ _ _) (h:=.n0 ?_);refine ao (ht:=fun hc=>?_) (hf:=fun hc=>?_);rw[if_pos (by omega)]at e1;rw[←e1];refine .seq (.region rfl (aa (h:=.n0 ?_)));exact LGo.ret (ax Tryz.results92 hA hmd);rw[if_neg (by omega)]at e1;refine .skip (.seq (.seq (.region rfl (ae (h:=aF rm (h:=?_))))));rw[List.length_map];refine ah (av _ _ _ _ _ _) (h:=.n0 ?_);refine ao (ht:=fun hc2=>?_) (hf:=fun hc2=>?_);rw[decide_eq_true hc2,Bool.true_or,if_pos rfl]at e1;rw[←e1];refine .seq (.region rfl (aa (h:=.n0 ?_)));exact LGo.ret (ax Tryz.results92 hA hmd);rw[decide_eq_false hc2,Bool.false_or]at e1;refine .skip (.seq (.seq (.region rfl (aa (h:=.n0 (.block (.loop ?_)))))));refine ay (σ:=Nat) (fun x=>x≤l.length∧(if((l.drop x).any fun g=>!fU g)=true then(6:Int)else 0)=g) (fun x=>[(3,(true,.i (x:Nat)))]) (fun x=>[]) (fun x=>l.length-x) (0) [(0,_)] ⟨Nat.zero_le _,e1⟩ (by repeat (first|exact trivial|refine⟨rfl,?_⟩)) (by repeat (first|exact trivial|refine⟨rfl,?_⟩)) (by repeat (first|exact trivial|refine⟨rfl,?_⟩)) ?_;rintro k ⟨hk,hq⟩ ih;refine .seq (.seq (.region rfl (ae (h:=ae (h:=aF rm (h:=?_))))));rw[List.length_map];refine ah (au _ _ _ _ _ _) (h:=.n0 ?_);refine ao (ht:=fun hc3=>?_) (hf:=fun hc3=>?_);have hlt:k<l.length:=by omega
 have hx:(l.map GtG.c)[((k:Nat):Int).toNat]?=some l[k].c:=by simp[hlt]
 have hd:l.drop k=l[k]::l.drop (k+1):=List.drop_eq_getElem_cons hlt;rw[hd,List.any_cons]at hq;have hx0:=hs l[k] (List.getElem_mem hlt);generalize l[k]=x at hx hq hx0;clear hd;refine .skip (.seq (.block (.seq (.region rfl (ae (h:=ae (h:=aw wy (hj:=fun hg=>⟨by omega,hx⟩) (h:=aR ri (h:=ai (es:=[_]) (fun _=>EP x hx0) (h:=bd (h:=.n0 ?_)))))))))));refine aj (ht:=fun hc4=>?_) (hf:=fun hc4=>?_);rw[hc4,Bool.true_or,if_pos rfl]at hq;rw[←hq];refine .seq (.region rfl (aa (h:=.n0 ?_)));exact LGo.ret (ax Tryz.results92 hA hmd);rw[hc4,Bool.false_or]at hq;refine .skip (.inBlock (.region rfl (ae (h:=aG (h:=aa (h:=.n0 (.inLoop ?_)))))));exact LGo.next _ (fun o h=>by have:=(hA o).1 h;omega) (by omega) (ih (k+1) ⟨by omega,hq⟩ (by omega)) (by repeat (first|exact trivial|refine⟨rfl,?_⟩)) (by repeat (first|exact trivial|refine⟨rfl,?_⟩));rw[List.drop_eq_nil_of_le (show l.length≤k by omega),List.any_nil]at hq;rw[←hq];refine .exit rfl (.seq (.region rfl (aa (h:=.n0 ?_))));exact LGo.ret (ax Tryz.results92 hA hmd)
theorem H2(a b:GtE):PC Tryz.prog 150 [.agg (a.c.map LV.sv),.agg (b.c.map LV.sv)] (.b (Hh a b)):=by
 refine⟨LC.of_go Tryz.func150 (c:=_) rfl (by kernel_rfl) (by rw[Tryz.ntmps150];simp) rfl rfl (by simp[LO.lt,an,LV.lt,aq]) (by simp) ?_⟩;intro B hA hmd;obtain⟨g,e0⟩:∃g,Hh a b=g:=⟨_,rfl⟩;have e1:=e0;unfold Hh at e1;rw[e0];refine .seq (.region rfl (bg (h:=bg (h:=aa (h:=.n0 (.seq (.seq (.region rfl (af pM (h:=ag sL (h:=af pM (h:=ag sL (h:=ah (aC _ _ _ _ _ _) (h:=?_))))))))))))));refine .n0 ?_;refine aj (ht:=fun hc=>?_) (hf:=fun hc=>?_);rw[if_pos hc]at e1;refine .seq (.region rfl (af pM (h:=ag sL (h:=af pM (h:=ag sL (h:=ah (au _ _ _ _ _ _) (h:=aa (h:=.n0 ?_))))))));rw[←e1];exact LGo.ret (ax Tryz.results150 hA hmd);rw[if_neg (by rw[hc];simp)]at e1;refine .skip (.seq (.seq (.region rfl (af pL (h:=ag eP (h:=af pL (h:=ag eP (h:=ah (aC _ _ _ _ _ _) (h:=.n0 ?_)))))))));refine aj (ht:=fun hc2=>?_) (hf:=fun hc2=>?_);rw[if_pos hc2]at e1;refine .seq (.region rfl (af pL (h:=ag eP (h:=af pL (h:=ag eP (h:=ah (au _ _ _ _ _ _) (h:=aa (h:=.n0 ?_))))))));rw[←e1];exact LGo.ret (ax Tryz.results150 hA hmd);rw[if_neg (by rw[hc2];simp)]at e1;refine .skip (.seq (.region rfl (af wY (h:=ag eP (h:=af wY (h:=ag eP (h:=ah (au _ _ _ _ _ _) (h:=aa (h:=.n0 ?_)))))))));rw[←e1];exact LGo.ret (ax Tryz.results150 hA hmd)
theorem Ez(x:GtG)(t:Int):PC Tryz.prog 149 [.agg (x.c.map LV.sv),.i t] (.b (decide (lT x t=0))):=by
 refine⟨LC.of_go Tryz.func149 (c:=_) rfl (by kernel_rfl) (by rw[Tryz.ntmps149];simp) rfl rfl (by simp[LO.lt,an,LV.lt,aq]) (by simp) ?_⟩;intro B hA hmd;rw[←EA];refine .seq (.region rfl (bg (h:=aa (h:=.n0 (.seq (.region rfl (ae (h:=af jx (h:=ag O2 (h:=ah (bh _ _ _ _ _ _) (h:=ae (h:=ae (h:=af kP (h:=?_))))))))))))));refine ag O2 (h:=ah (au _ _ _ _ _ _) (h:=aT (h:=aa (h:=.n0 ?_))));exact LGo.ret (ax Tryz.results149 hA hmd)
theorem Aq(gs:List GtG)(l:List GtE)(k:Nat)(x:GtE):DL gs (pw l k) x=(((decide (x.gate<0)||decide (x.gate≥gs.length))||!decide (lT (gs.getD x.gate.toNat default) x.time=0))||(decide ((k:Int)>0)&&!Hh (l.getD (k-1) default) x)):=by
 rw[vK,EF];congr 2;rw[Bool.eq_iff_iff];simp only[decide_eq_true_eq,Bool.not_eq_true',decide_eq_false_iff_not];omega
theorem An(s:GtS)(hs:DB s):PC Tryz.prog 94 [.agg (s.c.map LV.sv)] (.i (dp s)):=by
 refine⟨LC.of_go Tryz.func94 (c:=_) rfl (by kernel_rfl) (by rw[Tryz.ntmps94];simp) rfl rfl (by simp[LO.lt,an,LV.lt,aq]) (by simp) ?_⟩;intro B hA hmd;obtain⟨⟨hg1,hg2⟩,he1,he2⟩:=hs;obtain⟨g,e0⟩:∃g,dp s=g:=⟨_,rfl⟩;have e1:=e0;unfold dp at e1;rw[e0];refine .seq (.region rfl (bg (h:=aa (h:=.n0 (.seq (.region rfl (af dz (h:=ag gQ (h:=ai (es:=[_]) (fun _=>vn s.gates hg1 hg2) (h:=aa (h:=.n0 (.seq (.seq ?_)))))))))))));refine .region rfl (ae (h:=ah (av _ _ _ _ _ _) (h:=ae (h:=af eK (h:=ag rH (h:=aF AD (h:=?_)))))));rw[List.length_map];refine ah (aJ _ _ _ _ _ _) (h:=aT (h:=.n0 ?_));refine aj (ht:=fun hc=>?_) (hf:=fun hc=>?_);simp only[Bool.and_eq_true,decide_eq_true_eq]at hc;rw[if_neg (by simp[hc.1]),if_pos (by omega)]at e1;rw[←e1];refine .region rfl (aa (h:=.n0 (.seq (.seq (.region rfl (ae (h:=ah (aC _ _ _ _ _ _) (h:=.n0 ?_))))))));refine aj (ht:=fun hc2=>?_) (hf:=fun hc2=>by simp at hc2);refine .seq (.region rfl (ae (h:=aa (h:=.n0 ?_))));exact LGo.ret (ax Tryz.results94 hA hmd);refine .skip (.seq (.seq (.region rfl (ae (h:=ah (aC _ _ _ _ _ _) (h:=.n0 ?_))))));refine aj (ht:=fun hc3=>?_) (hf:=fun hc3=>?_);rw[if_pos (by simpa using hc3)]at e1;rw[←e1];refine .seq (.region rfl (ae (h:=aa (h:=.n0 ?_))));exact LGo.ret (ax Tryz.results94 hA hmd);have hc0:dS s.gates=0:=by simpa using hc3
 rw[if_neg (by simp[hc0]),if_neg (by rw[hc0]at hc;simp at hc;omega)]at e1;refine .skip (.seq (.seq (.region rfl (aa (h:=.n0 (.block (.loop ?_)))))));refine ay (σ:=Nat) (fun x=>x≤s.ents.length∧(if oa s.gates (pw s.ents x) (s.ents.drop x)=true then(6:Int)else 0)=g) (fun x=>[(4,(true,.i (x:Nat)))]) (fun x=>[(0,.box 77 (s.c.map LV.sv))]) (fun x=>s.ents.length-x) (0) [(1,_)] ⟨Nat.zero_le _,e1⟩ (by repeat (first|exact trivial|refine⟨rfl,?_⟩)) (by repeat (first|exact trivial|refine⟨rfl,?_⟩)) (by repeat (first|exact trivial|refine⟨rfl,?_⟩)) ?_;rintro k ⟨hk,hq⟩ ih;refine .seq (.seq (.region rfl (ae (h:=af eK (h:=ag rH (h:=aF AD (h:=?_)))))));rw[List.length_map];refine ah (au _ _ _ _ _ _) (h:=.n0 ?_);refine ao (ht:=fun hc4=>?_) (hf:=fun hc4=>?_);have hlt:k<s.ents.length:=by omega
 have hx:(s.ents.map GtE.c)[((k:Nat):Int).toNat]?=some s.ents[k].c:=by simp[hlt]
 have hd:s.ents.drop k=s.ents[k]::s.ents.drop (k+1):=List.drop_eq_getElem_cons hlt;have hxs:=he2 s.ents[k] (List.getElem_mem hlt);have hpv:=qw hlt;rw[hd,oa,Aq]at hq;generalize s.ents[k]=x at hx hq hxs hpv;clear hd;refine .skip (.seq (.block (.seq (.region rfl (af eK (h:=ag rH (h:=ae (h:=aw FV (hj:=fun hg=>⟨by omega,hx⟩) (h:=aR mZ (h:=aD F5 (h:=ar mZ (h:=.n0 (.seq ?_)))))))))))));refine .region rfl (af k9 (h:=ag O3 (h:=ah (au _ _ _ _ _ _) (h:=ae (h:=af k9 (h:=ag O3 (h:=af dz (h:=ag gQ (h:=aF rm (h:=?_))))))))));rw[List.length_map];refine ah (bh _ _ _ _ _ _) (h:=aX (h:=ae (h:=af dz (h:=ag gQ (h:=af k9 (h:=ag O3 (h:=aw wy (hj:=fun hg=>⟨by(simp at hg;omega),(by simp at hg;exact FD (by omega) (by omega))⟩) (h:=aR ri (h:=af wX (h:=ag O2 (h:=ai (es:=[_,_]) (fun _=>Ez (s.gates.getD x.gate.toNat default) x.time) (h:=bd (h:=aX (h:=?_))))))))))))));refine ae (h:=ae (h:=ah (aJ _ _ _ _ _ _) (h:=ae (h:=af eK (h:=ag rH (h:=ae (h:=dD (h:=aw FV (hj:=fun hg=>⟨by(simp at hg;omega),(by simp at hg;exact FH (by omega) (by omega))⟩) (h:=aR mZ (h:=aB mZ (h:=ai (es:=[_,_]) (fun _=>H2 (s.ents.getD (k-1) default) x) (h:=bd (h:=aT (hgy:=fun hg h=>by rw[h,hg];rfl) (h:=?_))))))))))))));refine aX (h:=Reg.nil ⟨fun _=>⟨aQ,by rfl,by rfl⟩,?_⟩);refine aj (ht:=fun hc5=>?_) (hf:=fun hc5=>?_);rw[hc5,Bool.true_or,if_pos rfl]at hq;rw[←hq];refine .seq (.region rfl (aa (h:=.n0 ?_)));exact LGo.ret (ax Tryz.results94 hA hmd);rw[hc5,Bool.false_or,←hpv]at hq;refine .skip (.inBlock (.region rfl (ae (h:=aG (h:=aa (h:=.n0 (.inLoop ?_)))))));exact LGo.next _ (fun o h=>by have:=(hA o).1 h;omega) (by omega) (ih (k+1) ⟨by omega,hq⟩ (by omega)) (by repeat (first|exact trivial|refine⟨rfl,?_⟩)) ⟨rfl,trivial⟩;rw[List.drop_eq_nil_of_le (show s.ents.length≤k by omega),oa]at hq;rw[←hq];refine .exit rfl (.seq (.region rfl (aa (h:=.n0 ?_))));exact LGo.ret (ax Tryz.results94 hA hmd)
theorem E8(s:GtS)(hs:DB s):PC Tryz.prog 93 [.agg (s.c.map LV.sv)] (.agg (s.c.map LV.sv)):=by
 refine⟨LC.of_go Tryz.func93 (c:=_) rfl (by kernel_rfl) (by rw[Tryz.ntmps93];simp) rfl rfl (by simp[LO.lt,an,LV.lt,aq]) (by simp) ?_⟩;intro B hA hmd;obtain⟨⟨hg1,hg2⟩,he1,he2⟩:=id hs;refine .seq (.region rfl (bg (h:=aD Dz (h:=.n0 (.seq (.region rfl (aD Dz (h:=.n0 (.seq (.seq (.region rfl (aa (h:=.n0 ?_)))))))))))));refine .block (.loop (aS 2 0 42 3 (h:=?_)));refine ay (σ:=Nat) (fun x=>x≤s.gates.length) (fun x=>[(4,(true,.i (x:Nat)))]) (fun x=>[(0,.box 77 (s.c.map LV.sv)),(1,.box 77 [.v (.slice none 0 0),.v (.slice none 0 0)]),(2,.bx 77 [.v undef,.v (.slice none 0 0)] 0 42 3 ((s.gates.take x).map GtG.c))]) (fun x=>s.gates.length-x) (0) [(1,_),(2,_),(3,_)] (Nat.zero_le _) (by repeat (first|exact trivial|refine⟨rfl,?_⟩)) (by repeat (first|exact trivial|refine⟨rfl,?_⟩)) (by repeat (first|exact trivial|refine⟨rfl,?_⟩)) ?_;rintro k hk ih;refine .seq (.seq (.region rfl (ae (h:=af dz (h:=ag gQ (h:=aF rm (h:=?_)))))));rw[List.length_map];refine ah (au _ _ _ _ _ _) (h:=.n0 ?_);refine ao (ht:=fun hc=>?_) (hf:=fun hc=>?_);refine LGo.unpack 2 (h:=?_);have hlt:k<s.gates.length:=by omega
 have hx:(s.gates.map GtG.c)[((k:Nat):Int).toNat]?=some s.gates[k].c:=by simp[hlt]
 have hd:s.gates.drop k=s.gates[k]::s.gates.drop (k+1):=List.drop_eq_getElem_cons hlt;have hsl:=hg2 s.gates[k] (List.getElem_mem hlt);have htk:s.gates.take (k+1)=s.gates.take k++[s.gates[k]]:=List.take_succ_eq_append_getElem hlt;generalize s.gates[k]=z at hx hsl htk;clear hd;refine .skip (.seq (.block (.seq (.region rfl (af dz (h:=ag gQ (h:=ae (h:=aw wy (hj:=fun hg=>⟨by omega,hx⟩) (h:=aR ri (h:=aD FT (h:=ar ri (h:=.n0 (.seq ?_)))))))))))));refine .region rfl (bo fa (xs:=[]) (es:=[]) (hcs:=CellsOfs.nil) (h:=af ez (h:=ag gP (h:=aO fa (hs:=SrcOk.sl Tryz.underlying38 (pG _ _)) (hlen:=by rw[bp];simp;omega) (h:=af ez (h:=aA gP (h:=.n0 (bJ 4 0 (h:=LGo.frzBx 4 (h:=.region rfl (af dz (h:=ag gQ (h:=aB ri (h:=?_))))))))))))));refine az sZ (xs:=[_]) (es:=[_]) (hcs:=CellsOfs.cons (CellsOf.agg rfl) CellsOfs.nil) (h:=aO sZ (hs:=SrcOk.sl Tryz.underlying25 (by simp;rfl)) (hlen:=by simp;omega) (h:=af dz (h:=aA gQ (h:=.n0 (.inBlock (.region rfl (ae (h:=aG (h:=aa (h:=.n0 (.inLoop (bJ 2 0 (h:=?_)))))))))))));exact LGo.next _ (fun o h=>by have:=(hA o).1 h;omega) (by omega) (ih (k+1) hlt (by omega)) (by repeat (first|exact trivial|refine⟨rfl,?_⟩)) ⟨rfl,rfl,by rw[htk,List.map_append];rfl,trivial⟩;obtain rfl:k=s.gates.length:=by omega
 rw[List.take_length];refine LGo.frzBx 2 (h:=.exit rfl (.seq (.region rfl (bo zi (xs:=[]) (es:=[]) (hcs:=CellsOfs.nil) (h:=af eK (h:=ag rH (h:=aO zi (hs:=SrcOk.sl Tryz.underlying75 (yK _)) (hlen:=by rw[List.length_map];simp;omega) (h:=af eK (h:=aA rH (h:=.n0 (bJ 2 1 (h:=LGo.frzBx 2 (h:=.seq ?_)))))))))))));refine .region rfl (aB nS (h:=ar nS (h:=.n0 ?_)));exact LGo.ret (cM Tryz.results93 nS hA hmd)
theorem E9(l:List GtG)(hl:l.length≤100000)(hs:∀g∈l,g.secs.length≤100000):PC Tryz.prog 93 [.agg [.sv (.sl 3 (l.map GtG.c)),.v (.slice none 0 0)]] (.agg ((GtS.mk l []).c.map LV.sv)):=
 PC.args (E8 ⟨l,[]⟩ ⟨⟨hl,hs⟩,by simp,by simp⟩) (by rfl) (fun _ _ _ h=>rN 5 h)
theorem Bm(l:List GtG)(hl:l.length≤100000)(hs:∀g∈l,g.secs.length≤100000):PC Tryz.prog 38 [.sv (.sl 3 (l.map GtG.c))] (.tup [.agg ((kU l).1.c.map LV.sv),.i (kU l).2]):=by
 refine⟨LC.of_go Tryz.func38 (c:=_) rfl (by kernel_rfl) (by rw[Tryz.ntmps38];simp) rfl rfl (by simp[LO.lt,an,LV.lt,aq]) (by simp) ?_⟩;intro B hA hmd;obtain⟨g,e0⟩:∃g,kU l=g:=⟨_,rfl⟩;have e1:=e0;unfold kU at e1;rw[e0];refine .seq (.region rfl (aD Dz (h:=aa (h:=.n0 (.seq (.region rfl (ae (h:=ai (es:=[_]) (fun _=>vn l hl hs) (h:=aa (h:=.n0 (.seq (.seq (.region rfl ?_)))))))))))));refine ae (h:=ah (aC _ _ _ _ _ _) (h:=.n0 ?_));refine aj (ht:=fun hc=>?_) (hf:=fun hc=>?_);rw[if_pos (by simpa using hc)]at e1;rw[←e1];refine .seq (.region rfl (br zg (is:=[]) (xs:=[]) (es:=[]) (h:=ae (h:=ar nS (h:=aa (h:=.n0 (aS 0 0 42 3 (h:=LGo.frzBx 0 (h:=aS 0 1 141 5 (h:=LGo.frzBx 0 (h:=?_)))))))))));exact LGo.ret (cy Tryz.results38 nS hA hmd);rw[if_neg (by simpa using hc)]at e1;rw[←e1];refine .skip (.seq (.region rfl (ae (h:=br zg (is:=[0]) (xs:=[_]) (es:=[_]) (h:=ai (es:=[_]) (fun _=>E9 l hl hs) (h:=ar nS (h:=aa (h:=.n0 ?_))))))));exact LGo.ret (cy Tryz.results38 nS hA hmd)
end Go.Proofs.YtgkhfpfjokagfaaGreatDoor
namespace Go.Proofs.YtgkhfpfjokagfaaGreatDoor
open Go.ChangeShapes Go.WideShapes Go.Deep Go.RowKit Go.ChangeAt
def ju:List (String×DataW Unit):=[("math/bits.deBruijn32tab",Rows.laid_math_bits_deBruijn32tab),("math/bits.deBruijn64tab",Rows.laid_math_bits_deBruijn64tab),("internal/strconv.uint64pow10",Rows.laid_internal_strconv_uint64pow10),("unicode/utf8.acceptRanges",Rows.laid_unicode_utf8_acceptRanges),("strconv.ErrRange",Rows.laid_strconv_ErrRange),("strconv.ErrSyntax",Rows.laid_strconv_ErrSyntax),("groundling/words.escapes",Rows.laid_groundling_words_escapes),("groundling/requests.masks",Rows.laid_groundling_requests_masks),("unicode/utf8.first",Rows.laid_unicode_utf8_first)]
theorem own:ownKnob Tryz.prog.godebug=none:=by kernel_rfl
theorem CW(os:Os)(args:Array Value):laidMetH Tryz.prog ju ((World.laidAll Tryz.prog os ju).forCall (fun _ _=>0) ⟨#[],args,[]⟩).memory:=by
 rw[MakeChecks.laidMetH_plain _ _ _ (by kernel_rfl)];exact laidMet_laidAll _ (by kernel_rfl) (by kernel_rfl)
theorem j3{P:Program}{w:World}:∀{l:List (String×DataW Unit)} {ps:List MemPlace},DataW.LaidVars P w l ps→∀nd∈l,∃g t cs fuel p,P.globalNamed nd.1=some g∧(P.globals[g]?).map (·.type)=some t∧w.var? P nd.1=some cs∧DataW.trod (fun _=>()) P w 0 (fun _=>true) false fuel t cs.toList=some (nd.2,p)
 |[],_,_,nd,h=>by cases h
 |x::l,ps,h,nd,hm=>by
  obtain⟨g,t,cs,fuel,p,q,h1,h2,h3,h4,h5,_⟩:=h;rcases List.mem_cons.1 hm with rfl|hm
  exact⟨g,t,cs,fuel,p,h1,h2,h3,h4⟩;exact j3 h5 nd hm
def Reads(P:Program)(t:TypeId)(d:DataW Unit)(cells:List Value):Prop:=∀(w:World) (fuel:Nat) (cs:List Value) (p:List MemPlace),DataW.trod (fun _=>()) P w 0 (fun _=>true) false fuel t cs=some (d,p)→cs=cells
theorem Reads.int{P:Program}{t:TypeId}{k:IntKind}{z:Int}(ht:P.underlying t=some (.int k)):Reads P t (.lit (.int k z)) [.int k z]:=fun w fuel cs p h=>by
 obtain⟨z',rfl,he,_⟩:=DataW.trod_int ht h;cases he
 rfl
theorem Reads.str{P:Program}{t:TypeId}{l:List UInt8}(ht:P.underlying t=some .string):Reads P t (.lit (.string l)) [.string ⟨l.toArray⟩]:=fun w fuel cs p h=>by
 obtain⟨⟨s⟩,rfl,he,_⟩:=DataW.trod_string ht h;cases he
 simp
theorem Bt{sz:Nat}:∀(cl:List (List Value)) (cs:List Value),cs.length=cl.length*sz→(∀i c,cl[i]?=some c→(cs.drop (i*sz)).take sz=c)→cs=cl.flatten
 |[],cs,hl,_=>by simpa using hl
 |c::cl,cs,hl,h=>by
  have h0:=h 0 c rfl;simp only[Nat.zero_mul,List.drop_zero]at h0;simp only[List.length_cons,Nat.add_mul,Nat.one_mul]at hl;have ih:=Bt (sz:=sz) cl (cs.drop sz) (by rw[List.length_drop];omega) (fun i c hc=>by
   have:=h (i+1) c (by simpa using hc);rw[List.drop_drop,show sz+i*sz=(i+1)*sz from by rw[Nat.add_mul];omega];exact this)
  rw[List.flatten_cons,←ih,←h0,List.take_append_drop]
theorem nB{P:Program}{t e:TypeId}{n sz:Nat}{ds:List (DataW Unit)}{cl:List (List Value)}(ht:P.underlying t=some (.array n e))(hs:P.cellsOf e=sz)(hct:P.cellsOf t=n*sz)(hn:cl.length=n)
 (h:∀(i:Nat) (d:DataW Unit) (c:List Value),ds[i]?=some d→cl[i]?=some c→Reads P e d c):Reads P t (.agg ds) cl.flatten:=fun w fuel cs p hr=>by
 obtain⟨xs,m,_,hx,hcl,hxl,hat⟩:=DataW.trod_array ht hr;rw[hs]at hat;have hds:ds=xs.map (·.1):=by have:=congrArg Prod.fst hx;simpa using this
 refine Bt (sz:=sz) cl cs (by rw[hcl,hct,hn]) (fun i c hc=>?_);have hi:i<n:=by have:=(List.getElem?_eq_some_iff.1 hc).1;omega
 have h1:=hat i hi;rw[List.getElem?_eq_getElem (by omega)]at h1;exact h i xs[i].1 c (by rw[hds];simp[hxl,hi]) hc w m _ xs[i].2 h1
theorem fI{P:Program}{t:TypeId}{fs:Array Field}{ds:List (DataW Unit)}{vs:List Value}(ht:P.underlying t=some (.struct fs))(hone:oneCellFields P fs=true)(hC:P.cellsOf t=fs.size)(hn:vs.length=fs.size)
 (h:∀(j:Nat) (f:Field) (d:DataW Unit) (v:Value),fs[j]?=some f→ds[j]?=some d→vs[j]?=some v→Reads P f.type d [v]):Reads P t (.agg ds) vs:=fun w fuel cs p hr=>by
 obtain⟨xs,m,_,hx,hcl,hxl,hat⟩:=DataW.trod_struct ht hr;have hds:ds=xs.map (·.1):=by have:=congrArg Prod.fst hx;simpa using this
 apply List.ext_getElem?;intro j;by_cases hj:j<fs.size;have hfj:fs[j]?=some fs[j]:=Array.getElem?_eq_getElem hj;obtain⟨ho,hk⟩:=hone_of hone j _ hfj;have h1:=hat j _ hfj;rw[ho,hk,List.getElem?_eq_getElem (by omega)]at h1;have h2:=h j _ xs[j].1 (vs[j]'(by omega)) hfj (by rw[hds];simp[hxl,hj]) (List.getElem?_eq_getElem (by omega)) w m _ xs[j].2 h1
 have hcj:(cs.drop j).take 1=[cs[j]'(by omega)]:=by rw[List.drop_eq_getElem_cons (by omega)];rfl
 rw[hcj]at h2;rw[List.getElem?_eq_getElem (by omega),List.getElem?_eq_getElem (by omega)];simpa using h2;rw[List.getElem?_eq_none (by omega),List.getElem?_eq_none (by omega)]
theorem AT:∀l:List Value,(l.map fun v=>[v]).flatten=l
 |[]=>rfl
 |v::l=>by rw[List.map_cons,List.flatten_cons,AT l];rfl
def AO:DataW Unit→List (DataW Unit)
 |.agg ds=>ds
 |_=>[]
theorem lp{P:Program}{W:World}{l:List (String×DataW Unit)}{name:String}{dt:DataW Unit}{cells:List Value}{g:Nat}{t:TypeId}
 (hg:P.globalNamed name=some g)(hty:(P.globals[g]?).map (·.type)=some t)(hr:Reads P t dt cells)(hm:(name,dt)∈l)(h:laidMet P l W):∃T fr,W.heap[g]?=some (.cells cells.toArray T fr):=by
 obtain⟨ps,hv,_⟩:=h;obtain⟨g',t',cs,fuel,p,hg',ht',hvar,hd⟩:=j3 hv _ hm;obtain rfl:=Option.some.inj (hg.symm.trans hg');obtain rfl:=Option.some.inj (hty.symm.trans ht');have hcs:=hr W fuel _ p hd;unfold World.var? at hvar;dsimp only at hvar hg';rw[hg',Option.bind_some]at hvar;cases hb:W.heap[g]? with
 |none=>rw[hb]at hvar;cases hvar
 |some o=>
  rw[hb]at hvar;cases o with
  |cells c T fr=>
   simp only[Option.some.injEq]at hvar;subst hvar;exact⟨T,fr,by rw[←hcs]⟩
  |_=>cases hvar
theorem oq{P:Program}{W:World}{l:List (String×DataW Unit)}{name nm:String}{dt d:DataW Unit}{g:Nat}{t:TypeId}{ms:Array (String×TypeId)}
 (hg:P.globalNamed name=some g)(hty:(P.globals[g]?).map (·.type)=some t)(hi:P.underlying t=some (.interface ms))(hd:dt= .iface nm d)(hm:(name,dt)∈l)(h:laidMet P l W):∃T fr tp p,W.heap[g]?=some (.cells #[.iface tp p] T fr):=by
 subst hd;obtain⟨ps,hv,_⟩:=h;obtain⟨g',t',cs,fuel,p,hg',ht',hvar,hd⟩:=j3 hv _ hm;obtain rfl:=Option.some.inj (hg.symm.trans hg');obtain rfl:=Option.some.inj (hty.symm.trans ht');obtain⟨_,u,v,hcs,_⟩:=iface_of_trod hi hd;unfold World.var? at hvar;dsimp only at hvar hg';rw[hg',Option.bind_some]at hvar;cases hb:W.heap[g]? with
 |none=>rw[hb]at hvar;cases hvar
 |some o=>
  rw[hb]at hvar;cases o with
  |cells c T fr=>
   simp only[Option.some.injEq]at hvar;subst hvar;exact⟨T,fr,u,v,by rw[←hcs]⟩
  |_=>cases hvar
theorem Gr:Reads Tryz.prog 276 Rows.laid_internal_strconv_uint64pow10 (Lib.pow10Tab.map (Value.int .u64)):=by
 have h:=nB (sz:=1) (cl:=(Lib.pow10Tab.map (Value.int .u64)).map fun v=>[v]) (ds:=AO Rows.laid_internal_strconv_uint64pow10) Tryz.underlying276 (by kernel_rfl) (by kernel_rfl) (by rfl) (fun i d c hd hc=>by
  match i,hd,hc with
  |0,hd,hc=>cases hd;cases hc;exact Reads.int Tryz.underlying55
  |1,hd,hc=>cases hd;cases hc;exact Reads.int Tryz.underlying55
  |2,hd,hc=>cases hd;cases hc;exact Reads.int Tryz.underlying55
  |3,hd,hc=>cases hd;cases hc;exact Reads.int Tryz.underlying55
  |4,hd,hc=>cases hd;cases hc;exact Reads.int Tryz.underlying55
  |5,hd,hc=>cases hd;cases hc;exact Reads.int Tryz.underlying55
  |6,hd,hc=>cases hd;cases hc;exact Reads.int Tryz.underlying55
  |7,hd,hc=>cases hd;cases hc;exact Reads.int Tryz.underlying55
  |8,hd,hc=>cases hd;cases hc;exact Reads.int Tryz.underlying55
  |9,hd,hc=>cases hd;cases hc;exact Reads.int Tryz.underlying55
  |10,hd,hc=>cases hd;cases hc;exact Reads.int Tryz.underlying55
  |11,hd,hc=>cases hd;cases hc;exact Reads.int Tryz.underlying55
  |12,hd,hc=>cases hd;cases hc;exact Reads.int Tryz.underlying55
  |13,hd,hc=>cases hd;cases hc;exact Reads.int Tryz.underlying55
  |14,hd,hc=>cases hd;cases hc;exact Reads.int Tryz.underlying55
  |15,hd,hc=>cases hd;cases hc;exact Reads.int Tryz.underlying55
  |16,hd,hc=>cases hd;cases hc;exact Reads.int Tryz.underlying55
  |17,hd,hc=>cases hd;cases hc;exact Reads.int Tryz.underlying55
  |18,hd,hc=>cases hd;cases hc;exact Reads.int Tryz.underlying55
  |19,hd,hc=>cases hd;cases hc;exact Reads.int Tryz.underlying55
  |j+20,hd,hc=>exact absurd (show j+20<20 from(List.getElem?_eq_some_iff.1 hc).1) (by omega))
 rw[AT]at h;exact h
theorem Gt:Reads Tryz.prog 240 Rows.laid_groundling_words_escapes (fj.map (Value.int .u8)):=by
 have h:=nB (sz:=2) (cl:=[[.int .u8 34,.int .u8 34],[.int .u8 92,.int .u8 92],[.int .u8 10,.int .u8 110],[.int .u8 13,.int .u8 114],[.int .u8 9,.int .u8 116]]) (ds:=AO Rows.laid_groundling_words_escapes) Tryz.underlying240 (by kernel_rfl) (by kernel_rfl) (by rfl) (fun i d c hd hc=>by
  match i,hd,hc with
  |0,hd,hc=>
   cases hd;cases hc
   refine fI Tryz.underlying239 (by kernel_rfl) (by kernel_rfl) (by rfl) (fun j f d v hf hd hv=>?_)
   match j,hf,hd,hv with
   |0,hf,hd,hv=>cases hf;cases hd;cases hv;exact Reads.int Tryz.underlying5
   |1,hf,hd,hv=>cases hf;cases hd;cases hv;exact Reads.int Tryz.underlying5
   |j+2,hf,hd,hv=>simp at hd
  |1,hd,hc=>
   cases hd;cases hc
   refine fI Tryz.underlying239 (by kernel_rfl) (by kernel_rfl) (by rfl) (fun j f d v hf hd hv=>?_)
   match j,hf,hd,hv with
   |0,hf,hd,hv=>cases hf;cases hd;cases hv;exact Reads.int Tryz.underlying5
   |1,hf,hd,hv=>cases hf;cases hd;cases hv;exact Reads.int Tryz.underlying5
   |j+2,hf,hd,hv=>simp at hd
  |2,hd,hc=>
   cases hd;cases hc
   refine fI Tryz.underlying239 (by kernel_rfl) (by kernel_rfl) (by rfl) (fun j f d v hf hd hv=>?_)
   match j,hf,hd,hv with
   |0,hf,hd,hv=>cases hf;cases hd;cases hv;exact Reads.int Tryz.underlying5
   |1,hf,hd,hv=>cases hf;cases hd;cases hv;exact Reads.int Tryz.underlying5
   |j+2,hf,hd,hv=>simp at hd
  |3,hd,hc=>
   cases hd;cases hc
   refine fI Tryz.underlying239 (by kernel_rfl) (by kernel_rfl) (by rfl) (fun j f d v hf hd hv=>?_)
   match j,hf,hd,hv with
   |0,hf,hd,hv=>cases hf;cases hd;cases hv;exact Reads.int Tryz.underlying5
   |1,hf,hd,hv=>cases hf;cases hd;cases hv;exact Reads.int Tryz.underlying5
   |j+2,hf,hd,hv=>simp at hd
  |4,hd,hc=>
   cases hd;cases hc
   refine fI Tryz.underlying239 (by kernel_rfl) (by kernel_rfl) (by rfl) (fun j f d v hf hd hv=>?_)
   match j,hf,hd,hv with
   |0,hf,hd,hv=>cases hf;cases hd;cases hv;exact Reads.int Tryz.underlying5
   |1,hf,hd,hv=>cases hf;cases hd;cases hv;exact Reads.int Tryz.underlying5
   |j+2,hf,hd,hv=>simp at hd
  |j+5,hd,hc=>exact absurd (show j+5<5 from(List.getElem?_eq_some_iff.1 hc).1) (by omega))
 exact h
theorem Gs:Reads Tryz.prog 262 Rows.laid_groundling_requests_masks (dL.map (Value.int .u16)):=by
 have h:=nB (sz:=1) (cl:=(dL.map (Value.int .u16)).map fun v=>[v]) (ds:=AO Rows.laid_groundling_requests_masks) Tryz.underlying262 (by kernel_rfl) (by kernel_rfl) (by rfl) (fun i d c hd hc=>by
  match i,hd,hc with
  |0,hd,hc=>cases hd;cases hc;exact Reads.int Tryz.underlying218
  |1,hd,hc=>cases hd;cases hc;exact Reads.int Tryz.underlying218
  |2,hd,hc=>cases hd;cases hc;exact Reads.int Tryz.underlying218
  |3,hd,hc=>cases hd;cases hc;exact Reads.int Tryz.underlying218
  |4,hd,hc=>cases hd;cases hc;exact Reads.int Tryz.underlying218
  |5,hd,hc=>cases hd;cases hc;exact Reads.int Tryz.underlying218
  |6,hd,hc=>cases hd;cases hc;exact Reads.int Tryz.underlying218
  |7,hd,hc=>cases hd;cases hc;exact Reads.int Tryz.underlying218
  |8,hd,hc=>cases hd;cases hc;exact Reads.int Tryz.underlying218
  |9,hd,hc=>cases hd;cases hc;exact Reads.int Tryz.underlying218
  |10,hd,hc=>cases hd;cases hc;exact Reads.int Tryz.underlying218
  |11,hd,hc=>cases hd;cases hc;exact Reads.int Tryz.underlying218
  |12,hd,hc=>cases hd;cases hc;exact Reads.int Tryz.underlying218
  |13,hd,hc=>cases hd;cases hc;exact Reads.int Tryz.underlying218
  |j+14,hd,hc=>exact absurd (show j+14<14 from(List.getElem?_eq_some_iff.1 hc).1) (by omega))
 rw[AT]at h;exact h
theorem wk{W:World}(h:laidMetH Tryz.prog ju W):Amb (DD W).pr W:=by
 rw[MakeChecks.laidMetH_plain _ _ _ (by kernel_rfl)]at h;refine Amb.of_heap (fun p hp=>?_) (fun b hb=>?_);have h3:=lp (name:= "internal/strconv.uint64pow10") (g:=3) (t:=276) (by kernel_rfl) (by kernel_rfl) Gr (show _∈ju from List.mem_cons_of_mem _ (List.mem_cons_of_mem _ (List.mem_cons_self ..))) h;have h1:=lp (name:= "groundling/words.escapes") (g:=1) (t:=240) (by kernel_rfl) (by kernel_rfl) Gt (show _∈ju from List.mem_cons_of_mem _ (List.mem_cons_of_mem _ (List.mem_cons_of_mem _ (List.mem_cons_of_mem _ (List.mem_cons_of_mem _ (List.mem_cons_of_mem _ (List.mem_cons_self ..))))))) h;have h2:=lp (name:= "groundling/requests.masks") (g:=2) (t:=262) (by kernel_rfl) (by kernel_rfl) Gs (show _∈ju from List.mem_cons_of_mem _ (List.mem_cons_of_mem _ (List.mem_cons_of_mem _ (List.mem_cons_of_mem _ (List.mem_cons_of_mem _ (List.mem_cons_of_mem _ (List.mem_cons_of_mem _ (List.mem_cons_self ..)))))))) h;simp only[oL,List.mem_cons,List.not_mem_nil,or_false]at hp;rcases hp with rfl|rfl|rfl
 exact⟨by decide,h3⟩;exact⟨by decide,h1⟩;exact⟨by decide,h2⟩;simp only[pq,List.mem_cons,List.not_mem_nil,or_false]at hb;rcases hb with rfl|rfl
 exact oq (name:= "strconv.ErrSyntax") (g:=8) (t:=62) (dt:=Rows.laid_strconv_ErrSyntax) (by kernel_rfl) (by kernel_rfl) Tryz.underlying62 rfl (show _∈ju from List.mem_cons_of_mem _ (List.mem_cons_of_mem _ (List.mem_cons_of_mem _ (List.mem_cons_of_mem _ (List.mem_cons_of_mem _ (List.mem_cons_self ..)))))) h;exact oq (name:= "strconv.ErrRange") (g:=9) (t:=62) (dt:=Rows.laid_strconv_ErrRange) (by kernel_rfl) (by kernel_rfl) Tryz.underlying62 rfl (show _∈ju from List.mem_cons_of_mem _ (List.mem_cons_of_mem _ (List.mem_cons_of_mem _ (List.mem_cons_of_mem _ (List.mem_cons_self ..))))) h
end Go.Proofs.YtgkhfpfjokagfaaGreatDoor