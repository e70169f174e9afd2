/- Joined texts, part 10 of 13. Contracts: the hash, tagged hashes. Condition: the program is the seat's; its constants are laid. -/
import Derived.Test.YtghnkpkellnmdaaGreatDoorI4
import Derived.Test.YtghnkpkellnmdaaGreatDoorI5
import Derived.Test.YtghnkpkellnmdaaGreatDoorI9
set_option maxRecDepth 100000
set_option linter.unusedSimpArgs false
set_option linter.unusedVariables false
set_option linter.unusedSectionVars false
set_option linter.defProp false
namespace Go.Ab
open Go Go.Proofs
open Go.Proofs.Tryz (prog)
variable {P:BA}(hP:P.p=prog)
def KQ(x k:Int):Int:=Zf BinOp.or IntKind.u32 (IntKind.u32.wrap (x*2 ^ min (Zf BinOp.and IntKind.u64 (IntKind.u64.wrap k) 31).toNat IntKind.u32.bits)) (x.fdiv (2 ^ min (IntKind.u64.wrap (32-Zf BinOp.and IntKind.u64 (IntKind.u64.wrap k) 31)).toNat IntKind.u32.bits))
def oJ(k:Int):Prop:=0<=Zf BinOp.and IntKind.u64 (IntKind.u64.wrap k) 31/\0<=IntKind.u64.wrap (32-Zf BinOp.and IntKind.u64 (IntKind.u64.wrap k) 31)
instance (k:Int):Decidable (oJ k):=by unfold oJ;infer_instance
def bJ(w:List Int)(t:Nat)(v:Int):Dn ((List.map (V.d∘Vw) w).set t (V.d (D.int .u32 v))) (CA ((List.map (V.d∘Vw) w).set t (V.d (D.int .u32 v))))=V.d (.agg ((w.set t v).map Vw)):=by
 have e:(List.map (V.d∘Vw) w).set t (V.d (D.int .u32 v))=((w.set t v).map Vw).map V.d:=by rw[List.map_map,GG];rfl
 rw[e,CI];rfl
def nq(w:List Int)(t:Nat)(v:Int):Dn ((List.map (V.d∘Cg) w).set t (V.d (D.int .u8 v))) (CA ((List.map (V.d∘Cg) w).set t (V.d (D.int .u8 v))))=V.d (.agg ((w.set t v).map Cg)):=by
 have e:(List.map (V.d∘Cg) w).set t (V.d (D.int .u8 v))=((w.set t v).map Cg).map V.d:=by rw[List.map_map,GG];rfl
 rw[e,CI];rfl
def ED(w:List Int)(k:Nat):Int:=w.getD k 0
def Zg{w:List Int}{k:Nat}(h:k<w.length):w[k]? = some (ED w k):=by simp[ED,h]
def Rk(b w:List Int)(t i:Nat):List Int:=w.set t (Zf BinOp.or IntKind.u32 (IntKind.u32.wrap (ED w t*2 ^ min 8 IntKind.u32.bits)) (IntKind.u32.wrap (ED b (4*t+i))))
def PI(w:List Int)(t:Nat):List Int:=w.set t (IntKind.u32.wrap (IntKind.u32.wrap (IntKind.u32.wrap (ED w (t-16)+Zf BinOp.xor IntKind.u32 (Zf BinOp.xor IntKind.u32 (KQ (ED w (t-15)) (-7)) (KQ (ED w (t-15)) (-18))) ((ED w (t-15)).fdiv (2 ^ min 3 IntKind.u32.bits)))+ED w (t-7))+Zf BinOp.xor IntKind.u32 (Zf BinOp.xor IntKind.u32 (KQ (ED w (t-2)) (-17)) (KQ (ED w (t-2)) (-19))) ((ED w (t-2)).fdiv (2 ^ min 10 IntKind.u32.bits))))
def Y0g{t:Nat}(h:t<64):(Dt.map Vw).getD t default=.int .u32 (ED Dt t):=by
 have a:t<Dt.length:=h;simp[ED,a,Vw]
def yM{K:V->Prop}{t:Nat}(h:t<64):Nf 64 1 K C0 (.d (.int .i64 t))=K (.d (.Bv (.int .u32 (ED Dt t)))):=by
 have c:Dt.length=64:=rfl;have b:(t:Int)<64:=by omega
 have e:∀x∈Dt.map Vw,x.sz=1:=by
  intro x a;obtain⟨y,_,rfl⟩:=DY.1 a;rfl
 unfold C0;rw[Ywz];simp only[Int.toNat_natCast,Y0g h,List.length_map,c];simp[b];intro x a y;rfl
def pG(e f g a k w:Int):Int:=IntKind.u32.wrap (IntKind.u32.wrap (IntKind.u32.wrap (IntKind.u32.wrap (a+Zf BinOp.xor IntKind.u32 (Zf BinOp.xor IntKind.u32 (KQ e (-6)) (KQ e (-11))) (KQ e (-25)))+Zf BinOp.xor IntKind.u32 (Zf BinOp.and IntKind.u32 e f) (Zf BinOp.and IntKind.u32 (Zf BinOp.xor IntKind.u32 (if IntKind.u32.signed=true then -1 else IntKind.u32.max) e) g))+k)+w)
def Zmo(a b c:Int):Int:=IntKind.u32.wrap (Zf BinOp.xor IntKind.u32 (Zf BinOp.xor IntKind.u32 (KQ a (-2)) (KQ a (-13))) (KQ a (-22))+Zf BinOp.xor IntKind.u32 (Zf BinOp.xor IntKind.u32 (Zf BinOp.and IntKind.u32 a b) (Zf BinOp.and IntKind.u32 a c)) (Zf BinOp.and IntKind.u32 b c))
def N7(k w:Int):List Int->List Int
|[a,b,c,d,e,f,g,h]=>[IntKind.u32.wrap (pG e f g h k w+Zmo a b c),a,b,c,IntKind.u32.wrap (d+pG e f g h k w),e,f,g]
|v=>v
def nX{v:List Int}(h:v.length=8):∃a b c d e f g i,v=[a,b,c,d,e,f,g,i]:=by
 match v,h with
 |[a,b,c,d,e,f,g,i],_=>exact⟨a,b,c,d,e,f,g,i,rfl⟩
def Yt3{k w:Int}{v:List Int}(h:v.length=8):(N7 k w v).length=8:=by
 obtain⟨a,b,c,d,e,f,g,i,rfl⟩:=nX h;rfl
def Nx(h v:List Int)(i:Nat):List Int:=h.set i (IntKind.u32.wrap (ED h i+ED v i))
def U9{b:Type}(f:Nat->b->b)(a:b):Nat->b
|0=>a
|k+1=>f k (U9 f a k)
def Up{b:Type}{f:Nat->b->b}{a:b}{I:b->Prop}(c:I a)(h:∀k x,I x->I (f k x)):∀k,I (U9 f a k)
|0=>c
|k+1=>h _ _ (Up c h k)
def w4(b w:List Int)(t:Nat):List Int:=U9 (λi w=>Rk b w t i) w 4
def YM(b:List Int):List Int:=U9 (λt w=>w4 b w t) (List.replicate 64 0) 16
def YN(b:List Int):List Int:=U9 (λt w=>PI w (16+t)) (YM b) 48
def Tx(w h:List Int):List Int:=U9 (λt v=>N7 (ED Dt t) (ED w t) v) h 64
def LM(h b:List Int):List Int:=U9 (λi x=>Nx x (Tx (YN b) h) i) h 8
def Ymh{b w:List Int}(t:Nat)(h:w.length=64)(k:Nat):(U9 (λi w=>Rk b w t i) w k).length=64:=Up (I:=λw:List Int=>w.length=64) h (λk x a=>by simp[Rk,a]) k
def Ydu{b:List Int}(k:Nat):(U9 (λt w=>w4 b w t) (List.replicate 64 0) k).length=64:=Up (I:=λw:List Int=>w.length=64) (by simp) (λk x a=>Ymh k a 4) k
def Ydv{b:List Int}(k:Nat):(U9 (λt w=>PI w (16+t)) (YM b) k).length=64:=Up (I:=λw:List Int=>w.length=64) (Ydu 16) (λk x a=>by simp[PI,a]) k
def Ydn{w h:List Int}(a:h.length=8)(k:Nat):(U9 (λt v=>N7 (ED Dt t) (ED w t) v) h k).length=8:=Up (I:=λw:List Int=>w.length=8) a (λk x b=>Yt3 b) k
def Yjf{h v:List Int}(a:h.length=8)(k:Nat):(U9 (λi x=>Nx x v i) h k).length=8:=Up (I:=λw:List Int=>w.length=8) a (λk x b=>by simp[Nx,b]) k
def dz{h b:List Int}(a:h.length=8):(LM h b).length=8:=Yjf a 8
section
variable {P:BA} (hPp:P.p=prog)
include hPp
theorem K6(x k:Int)(a:oJ k){b:AF}{K:V->Prop}(h:K (.d (.int .u32 (KQ x k)))):AW P 251 [.d (.int .u32 x),.d (.int .i64 k)] b K:=by
 refine AJ hPp AQ (ds:=[.int .u32 x,.int .i64 k]) Ze1 Zap A4.nil ?_;simp[Y6w];exact⟨a,h⟩
theorem Yq2{b w:List Int}(n:b.length=64)(u:w.length=64){t i:Nat}(H:t<16)(G:i<4){c:AF}{p q r:Nat}(o:AB c q=some (.box 354 (.d (.agg (b.map Cg)))))(s:AB c r=some (.box 356 (.d (.agg (w.map Vw)))))(a:q≠r){R:Zi}
 (h:R .normal [(0,.ptr p []),(1,.bs q [] 0 64),(4,.ptr r []),(5,.d (.int .i64 t)),(23,.d (.int .i64 t)),(26,.d (.int .i64 (i+1:Nat)))] (AG c r (.box 356 (.d (.agg ((Rk b w t i).map Vw)))))):
 Zb P [] WD R [(0,.ptr p []),(1,.bs q [] 0 64),(4,.ptr r []),(5,.d (.int .i64 t)),(23,.d (.int .i64 t)),(26,.d (.int .i64 i))] c:=by
 have e:(q==r)=false:=by simp[a]
 have m:(r==q)=false:=by simpa using Ne.symm a
 have x:IntKind.i64.wrap (4*(t:Int))=4*(t:Int):=w_i _ (by omega);have y:IntKind.i64.wrap (4*(t:Int)+(i:Int))=((4*t+i:Nat):Int):=by rw[w_i _ (by omega)];push_cast;rfl
 have z:=w_s i (by omega);have v:(i:Int)<4:=by omega
 have f:((4*t+i:Nat):Int)<64:=by omega
 have g:(t:Int)<64:=by omega
 have F:=Zg (w:=w) (k:=t) (by omega);have l:=Zg (w:=b) (k:=4*t+i) (by omega);unfold Rk at h;generalize 4*t+i=j at *;rw[GG]at h;simp[Xyi,o,s,e,m,x,y,z,Cg,Vw,v,f,g,F,l,u,n,bJ];simpa[Vw]using h
theorem Yq1{w:List Int}(j:w.length=64){t:Nat}(u:16<=t)(z:t<64){a:AF}{p r:Nat}(i:AB a r=some (.box 356 (.d (.agg (w.map Vw))))){R:Zi}
 (h:R .normal [(0,.ptr p []),(4,.ptr r []),(7,.d (.int .i64 (t+1:Nat)))] (AG a r (.box 356 (.d (.agg ((PI w t).map Vw)))))):
 Zb P [] fU R [(0,.ptr p []),(4,.ptr r []),(7,.d (.int .i64 t))] a:=by
 have y:=w_s t (by omega);have b:(t:Int)<64:=by omega
 have n:IntKind.i64.wrap ((t:Int)-15)=((t-15:Nat):Int):=by rw[w_i _ (by omega)];omega
 have o:IntKind.i64.wrap ((t:Int)-2)=((t-2:Nat):Int):=by rw[w_i _ (by omega)];omega
 have c:IntKind.i64.wrap ((t:Int)-16)=((t-16:Nat):Int):=by rw[w_i _ (by omega)];omega
 have e:IntKind.i64.wrap ((t:Int)-7)=((t-7:Nat):Int):=by rw[w_i _ (by omega)];omega
 have q:((t-15:Nat):Int)<64:=by omega
 have s:((t-2:Nat):Int)<64:=by omega
 have f:((t-16:Nat):Int)<64:=by omega
 have g:((t-7:Nat):Int)<64:=by omega
 have m:=Zg (w:=w) (k:=t) (by omega);have v:=Zg (w:=w) (k:=t-15) (by omega);have x:=Zg (w:=w) (k:=t-2) (by omega);have l:=Zg (w:=w) (k:=t-16) (by omega);have w4:=Zg (w:=w) (k:=t-7) (by omega);unfold PI at h;rw[GG]at h;generalize t-15=F at *;generalize t-2=G at *;generalize t-16=H at *;generalize t-7=J at *;simp[Xyh,i,y,Vw,b,m,n,o,c,e,q,s,f,g,v,x,l,w4,j];refine K6 hPp _ _ (by decide) ?_;refine K6 hPp _ _ (by decide) ?_;simp;refine K6 hPp _ _ (by decide) ?_;refine K6 hPp _ _ (by decide) ?_;simp[i,m,l,w4,c,e,f,g,j,Vw,bJ];simpa[Vw]using h
theorem Yq0(q:Bx P 5 C0){w v:List Int}(n:w.length=64)(x:v.length=8){t:Nat}(u:t<64){l:AF}{p r s:Nat}(m:AB l r=some (.box 356 (.d (.agg (w.map Vw)))))(j:AB l s=some (.box 315 (.d (.agg (v.map Vw))))){R:Zi}
 (h:R .normal [(0,.ptr p []),(4,.ptr r []),(12,.ptr s []),(92,.d (.int .i64 (t+1:Nat)))] (AG l s (.box 315 (.d (.agg ((N7 (ED Dt t) (ED w t) v).map Vw)))))):
 Zb P [] WC R [(0,.ptr p []),(4,.ptr r []),(12,.ptr s []),(92,.d (.int .i64 t))] l:=by
 have y:=w_s t (by omega);have i:(t:Int)<64:=by omega
 have o:=Zg (w:=w) (k:=t) (by omega);obtain⟨a,b,c,d,e,f,g,z,rfl⟩:=nX x;simp[Vw]at j;simp[WC,m,j,y,Vw,i,o,n];refine K6 hPp _ _ (by decide) ?_;refine K6 hPp _ _ (by decide) ?_;simp;refine K6 hPp _ _ (by decide) ?_;simp[m,j,o,i,n,Vw,q,yM u];refine K6 hPp _ _ (by decide) ?_;refine K6 hPp _ _ (by decide) ?_;simp;refine K6 hPp _ _ (by decide) ?_;simp[m,j,o,i,n,Vw,q,yM u];simpa[N7,pG,Zmo,Vw]using h
omit hPp in
theorem Yqz{h0 v:List Int}(e:h0.length=8)(i:v.length=8){t:Nat}(m:t<8){a:AF}{p s:Nat}(f:AB a p=some (.box 315 (.d (.agg (h0.map Vw)))))(g:AB a s=some (.box 315 (.d (.agg (v.map Vw))))){R:Zi}
 (h:R .normal [(0,.ptr p []),(12,.ptr s []),(172,.d (.int .i64 (t+1:Nat)))] (AG a p (.box 315 (.d (.agg ((Nx h0 v t).map Vw)))))):
 Zb P [] fT R [(0,.ptr p []),(12,.ptr s []),(172,.d (.int .i64 t))] a:=by
 have l:=w_s t (by omega);have j:(t:Int)<8:=by omega
 have b:=Zg (w:=h0) (k:=t) (by omega);have c:=Zg (w:=v) (k:=t) (by omega);unfold Nx at h;rw[GG]at h;simp[Xyg,f,g,l,Vw,j,b,c,e,i,bJ];simpa[Vw]using h
theorem dy(hK:Bx P 5 C0){n b:List Int}(N:n.length=8)(hb:b.length=64){k:AF}{p q:Nat}(O:AB k p=some (.box 315 (.d (.agg (n.map Vw)))))(hq:AB k q=some (.box 354 (.d (.agg (b.map Cg))))){K:BN->AF->Prop}
 (h:K (.ret (.BT [])) (AG k p (.box 315 (.d (.agg ((LM n b).map Vw)))))):AX P 219 [.ptr p [],.bs q [] 0 64] k K:=by
 refine AY hPp AQ Zeb Y98 A4.nil λ_ J=>?_;have lp:=Xi O;have lq:=Xi hq;have Q:(AA k==p)=false:=by simp;omega
 have e2:(AA k==q)=false:=by simp;omega
 have e3:(AA k+1==p)=false:=by simp;omega
 have G:¬AA k+1<=AA k:=by omega
 have s:¬AA k+2<=AA k:=by omega
 simp[Y2l];let o:List Int->AF:=λw=>(AA k,.box 356 (.d (.agg (w.map Vw))))::k;refine EC 16 (λt=>[(0,.ptr p []),(1,.bs q [] 0 64),(4,.ptr (AA k) []),(23,.d (.int .i64 t))]) (λt=>o (U9 (λt w=>w4 b w t) (List.replicate 64 0) t)) (λ_=>True) trivial (by simp) rfl ?_ ?_
 ·intro t L _ R rn re rr rp
  have Z:(t:Int)<16:=by omega
  have wi:=w_s t (by omega);have H:=Ydu (b:=b) t;have hit:U9 (λt w=>w4 b w t) (List.replicate 64 0) (t+1)=w4 b (U9 (λt w=>w4 b w t) (List.replicate 64 0) t) t:=rfl;rw[hit]at rn;generalize U9 (λt w=>w4 b w t) (List.replicate 64 0) t=w0 at *;simp[Xyj,Z];refine EC 4 (λi=>[(0,.ptr p []),(1,.bs q [] 0 64),(4,.ptr (AA k) []),(5,.d (.int .i64 t)),(23,.d (.int .i64 t)),(26,.d (.int .i64 i))]) (λi=>o (U9 (λi w=>Rk b w t i) w0 i)) (λ_=>True) trivial (by simp) rfl ?_ ?_
  ·intro i hi _ z u j m l
   have U:=Ymh (b:=b) t H i;refine Yq2 hPp hb U L hi (r:=AA k) (by simp[o,e2,hq]) (by simp[o]) (by omega) ?_;refine u [] _ _ trivial (by simp) ?_ ?_ ?_
   ·simp[o,AD,G,s];rfl
   ·simp[o,AD];omega
   ·simpa[o,AD]using Xm 1 J
  ·intro _ z j m l
   simp[Xyi];refine j _ _ _ ?_;simp[wi];refine rn [] _ _ trivial (by simp) ?_ ?_ ?_
   ·simp[o,AD,G,s];rfl
   ·simp[o,AD];omega
   ·simpa[o,AD]using Xm 1 J
 ·intro _ R re rr rp
  simp[Xyj];refine re _ _ _ ?_;simp;refine EC 48 (λt=>[(0,.ptr p []),(4,.ptr (AA k) []),(7,.d (.int .i64 (16+t:Nat)))]) (λt=>o (U9 (λt w=>PI w (16+t)) (YM b) t)) (λ_=>True) trivial (by simp) rfl ?_ ?_
  ·intro t L _ z u j m l
   refine Yq1 hPp (Ydv (b:=b) t) (by omega) (by omega) (by simp[o]) ?_;refine u [] _ _ trivial (by simp;omega) ?_ ?_ ?_
   ·simp[o,AD,G,s];rfl
   ·simp[o,AD];omega
   ·simpa[o,AD]using Xm 1 J
  ·intro _ z j m l
   simp[Xyh];refine j _ _ _ ?_;simp[o,O,Q];have hw:YN b=U9 (λt w=>PI w (16+t)) (YM b) 48:=rfl;have H:(YN b).length=64:=Ydv 48;rw[<-hw];clear j m l z;generalize T:YN b=w at *;let F:List Int->AF:=λv=>(AA k+1,.box 315 (.d (.agg (v.map Vw))))::(AA k,.box 356 (.d (.agg (w.map Vw))))::k;obtain⟨X,Y⟩:Sh.BX (D.BM (n.map Vw))=8/\D.BM (n.map Vw)=[.AR,.AR,.AR,.AR,.AR,.AR,.AR,.AR]:=by
    obtain⟨a,b,c,d,e,f,g,i,rfl⟩:=nX N;exact⟨rfl,rfl⟩
   refine⟨X,Y,?_⟩;refine EC 64 (λt=>[(0,.ptr p []),(4,.ptr (AA k) []),(12,.ptr (AA k+1) []),(92,.d (.int .i64 t))]) (λt=>F (U9 (λt v=>N7 (ED Dt t) (ED w t) v) n t)) (λ_=>True) trivial (by simp) rfl ?_ ?_
   ·intro t L _ z u j m l
    refine Yq0 hPp hK (w:=w) (v:=U9 (λt v=>N7 (ED Dt t) (ED w t) v) n t) H (Ydn N t) L (by simp[F]) (by simp[F]) ?_;refine u [] _ _ trivial (by simp) ?_ ?_ ?_
    ·simp[F,AD,G,s];rfl
    ·simp[F,AD];omega
    ·simpa[F,AD]using Xm 2 J
   ·intro _ z j m l
    simp[WC];refine j _ _ _ ?_;have hv:Tx w n=U9 (λt v=>N7 (ED Dt t) (ED w t) v) n 64:=rfl;have W:(Tx w n).length=8:=Ydn N 64;rw[<-hv];clear j m l z;have hF:LM n b=U9 (λi x=>Nx x (Tx w n) i) n 8:=by rw[LM,T]
    generalize Tx w n=v at *;simp;let y:List Int->AF:=λx=>(AA k+1,.box 315 (.d (.agg (v.map Vw))))::(AA k,.box 356 (.d (.agg (w.map Vw))))::AG k p (.box 315 (.d (.agg (x.map Vw))));refine EC 8 (λt=>[(0,.ptr p []),(12,.ptr (AA k+1) []),(172,.d (.int .i64 t))]) (λt=>y (U9 (λi x=>Nx x v i) n t)) (λ_=>True) trivial (by simp) ?_ ?_ ?_
    ·simp[F,y,U9]
     rw[Yd O]
    ·intro t L _ z u j m l
     refine Yqz (h0:=U9 (λi x=>Nx x v i) n t) (v:=v) (Yjf N t) W L (by simp[y,Q,e3,O]) (by simp[y]) ?_;refine u [] _ _ trivial (by simp) ?_ ?_ ?_
     ·simp[y,AD,G,s,Q,e3,QA];rfl
     ·simp[y,AD];omega
     ·simp[y,AD]
      exact Af _ _ _ _ _ (Xm 2 J) (by simp[AD])
    ·intro _ z j m l
     simp[Xyg];refine j _ _ _ ?_;rw[<-hF];simp;refine⟨[],by simp,?_,?_⟩
     ·simp[y,AD,G,s]
      exact Af _ _ _ _ _ (by simpa[AD]using J []) (by simp[AD])
     ·simpa[y,AD,G,s]using h
end
def G8:List Int:=List.replicate 64 0
def Nr(b:List Int):D:=.AH 1 (b.map Cg)
def Ga(a:Nat)(b c:List Int):List Int:=b.take a++(c++b.drop (a+c.length))
def Xz0(a:Nat)(b c:List Int):JK a (b.map Cg) (c.map Cg)=(Ga a b c).map Cg:=by
 simp[JK,Ga,Kv,List.map_drop]
def kP{b:Nat}{a c:List Int}(h:b+c.length<=a.length):(Ga b a c).length=a.length:=by
 simp[Ga];omega
def Yhs(b:Nat)(a:List Int):Ga b a []=a:=by simp[Ga]
def SY{xs ys:List Int}(h:xs.length=ys.length):(D.agg (xs.map Cg)).shape=(D.agg (ys.map Cg)).shape:=by
 simp only[D.shape,D.Bj,List.map_map];have e:∀l:List Int,l.map (D.shape∘Cg)=List.replicate l.length .AR:=λl=>by
  induction l with
  |nil=>rfl
  |cons x r a=>simp only[Cw,List.length_cons,List.replicate_succ,a];rfl
 rw[e,e,h]
structure Cx where
 h:List Int
 b:List Int
 n:Nat
structure Cx.ok(s:Cx):Prop where
 h:s.h.length=8
 b:s.b.length=64
 n:s.n<64
def Cx.put(s:Cx)(x:List Int):Cx:=
 if s.n+min x.length (64-s.n)=64 then⟨LM s.h (Ga s.n s.b (x.take (64-s.n))),Ga s.n s.b (x.take (64-s.n)),0⟩ else⟨s.h,Ga s.n s.b (x.take (64-s.n)),s.n+min x.length (64-s.n)⟩
def UA{s:Cx}(h:s.ok)(x:List Int):(s.put x).ok:=by
 have a:(Ga s.n s.b (x.take (64-s.n))).length=64:=by
  rw[kP,h.b];have:=h.n;have:=h.b;simp;omega
 unfold Cx.put;split
 ·exact⟨dz h.h,a,by simp⟩
 ·have:=h.n;exact⟨h.h,a,by simp only;omega⟩
def G9:Nat->Cx->List Int->Cx
|0,s,_=>s
|k+1,s,x=>if x=[] then s else G9 k (s.put x) (x.drop (min x.length (64-s.n)))
def SR(k:Nat)(s:Cx):G9 k s []=s:=by cases k<;>simp[G9]
def xg:∀(k m:Nat)(s:Cx)(x:List Int),s.ok->x.length<=k->x.length<=m->G9 k s x=G9 m s x
|0,m,s,x,_,h,_=>by
 have:x=[]:=Pb.1 (by omega);subst this;rw[SR,SR]
|k+1,0,s,x,_,_,h=>by
 have:x=[]:=Pb.1 (by omega);subst this;rw[SR,SR]
|k+1,m+1,s,x,a,c,d=>by
 simp only[G9];split
 ·rfl
 next b=>have:0<x.length:=List.length_pos_iff.2 b;have:=a.n;exact xg k m _ _ (UA a x) (by simp;omega) (by simp;omega)
def uV:∀(k:Nat)(s:Cx)(x:List Int),s.ok->(G9 k s x).ok
|0,s,x,h=>h
|k+1,s,x,h=>by
 simp only[G9];split
 ·exact h
 ·exact uV k _ _ (UA h x)
def X6x{s:Cx}{x:List Int}(h:s.ok)(b:x≠[]):G9 x.length s x=G9 (x.drop (min x.length (64-s.n))).length (s.put x) (x.drop (min x.length (64-s.n))):=by
 have c:0<x.length:=List.length_pos_iff.2 b;have:=h.n;obtain⟨k,a⟩:∃k,x.length=k+1:=⟨x.length-1,by omega⟩
 rw[a];simp only[G9,b,Bs];rw[a];exact xg _ _ _ _ (UA h x) (by simp;omega) (by simp)
def TJ(t:Int)(x:List Int):Int:=IntKind.u64.wrap (t+IntKind.u64.wrap x.length)
def Xs:Cx×Int->List (List Int)->Cx×Int
|s,[]=>s
|s,x::r=>Xs (G9 x.length s.1 x,TJ s.2 x) r
def xZ:∀(l:List (List Int)) (s:Cx×Int) (x:List Int),Xs s (l++[x])=(G9 x.length (Xs s l).1 x,TJ (Xs s l).2 x)
|[],s,x=>rfl
|y::r,s,x=>by simp only[List.cons_append,Xs];exact xZ r _ x
def X2k{l:List (List Int)}{s:Cx×Int}{k:Nat}(h:k<l.length):Xs s (l.take (k+1))=(G9 l[k].length (Xs s (l.take k)).1 l[k],TJ (Xs s (l.take k)).2 l[k]):=by
 rw[D2 h,xZ]
def WI:∀(l:List (List Int)) (s:Cx×Int),s.1.ok->(Xs s l).1.ok
|[],s,h=>h
|x::r,s,h=>WI r _ (uV _ _ _ h)
def J4(t:Int)(i:Nat)(b:List Int):List Int:=b.set (63-i) (IntKind.u8.wrap ((IntKind.u64.wrap (t*8)).fdiv (2 ^ min (8*i) IntKind.u64.bits)))
def I4(s:Cx):List Int:=Ga (s.n+1) (s.b.set s.n 128) (List.replicate (64-(s.n+1)) 0)
def Gi(s:Cx):Cx:=if s.n+1 > 56 then⟨LM s.h (I4 s),G8,0⟩ else⟨s.h,I4 s,0⟩
def Cq(s:Cx×Int):List Int:=LM (Gi s.1).h (U9 (J4 s.2) (Gi s.1).b 8)
def IS(h:List Int)(a:List (List Int)):List Int:=Cq (Xs (⟨h,G8,0⟩,0) a)
def Xz2{s:Cx}(h:s.ok):(I4 s).length=64:=by
 have:=h.n;have:=h.b;rw[I4,kP]<;>simp[h.b];omega
def Yl3{s:Cx}(h:s.ok):(Gi s).h.length=8:=by
 unfold Gi;split
 ·exact dz h.h
 ·exact h.h
def Y35{s:Cx}(h:s.ok):(Gi s).b.length=64:=by
 unfold Gi;split
 ·rfl
 ·exact Xz2 h
def sB{t:Int}{b:List Int}(h:b.length=64)(k:Nat):(U9 (J4 t) b k).length=64:=Up (I:=λb:List Int=>b.length=64) h (λk x a=>by simp[J4,a]) k
def Yfi{h:List Int}{a:List (List Int)}(b:h.length=8):(IS h a).length=8:=dz (Yl3 (WI a _ ⟨b,rfl,by simp⟩))
include hP
theorem UW:Xd P.p 219=true:=by rw[hP];kernel_rfl
def Ef(a:AF)(p:Nat)(h b:List Int):AF:=(AA a,.box 354 (.d (.agg (b.map Cg))))::AG a p (.box 315 (.d (.agg (h.map Vw))))
theorem Yfa(hK:Bx P 5 C0){h0:List Int}(hh:h0.length=8){o:List (List Int)}(a5:o.length<=1000)(ag:∀x∈o,x.length<=9223372036854775807){c:AF}{p:Nat}(hp:AB c p=some (.box 315 (.d (.agg (h0.map Vw))))){K:BN->AF->Prop}
 (h:K (.ret (.BT [])) (AG c p (.box 315 (.d (.agg ((IS h0 o).map Vw)))))):AX P 218 [.fn 219 [.ptr p []] [],.d (.AH 1 (o.map Nr))] c K:=by
 refine AY hP AQ Zea Y97 A4.nil λ_ hm=>?_;have lp:=Xi hp;have e1:(AA c==p)=false:=by simp;omega
 have ef:¬AA c+1<=AA c:=by omega
 have N:∀h b kp,AI (AD (AA c+1) kp) (Ef c p h b)=true:=λh b kp=>by
  simp[Ef];exact Af _ _ _ _ _ (Xm 1 hm) (by simp[AD])
 have g:∀h b,AA (Ef c p h b)=AA c+1:=λh b=>by simp[Ef]
 have L:∀h b,Xk (AD (AA c+1) []) (Ef c p h b)=Ef c p h b:=λh b=>by
  simp[Ef,AD,ef]
 have W:∀h b,AB (Ef c p h b) (AA c)=some (.box 354 (.d (.agg (b.map Cg)))):=λh b=>by simp[Ef]
 have lh:∀h b,AB (Ef c p h b) p=some (.box 315 (.d (.agg (h.map Vw)))):=λh b=>by simp[Ef,e1,hp]
 have J:∀h b b',AG (Ef c p h b) (AA c) (.box 354 (.d (.agg (b'.map Cg))))=Ef c p h b':=λh b b'=>by simp[Ef]
 have sh:∀h b h',AG (Ef c p h b) p (.box 315 (.d (.agg (h'.map Vw))))=Ef c p h' b:=λh b h'=>by simp[Ef,e1,QA]
 have U:∀b:List Int,∀x∈b.map Cg,x.sz=1:=λb x hx=>by
  obtain⟨y,_,rfl⟩:=DY.1 hx;rfl
 simp[Y2k];refine EC o.length (λk=>[(0,.fn 219 [.ptr p []] []),(4,.ptr (AA c) []),(5,.d (.int .i64 (Xs (⟨h0,G8,0⟩,0) (o.take k)).1.n)),(6,.d (.int .u64 (Xs (⟨h0,G8,0⟩,0) (o.take k)).2)),(11,.d (.AH 1 (o.map Nr))),(12,.d (.int .i64 o.length)),(13,.d (.int .i64 k))])
  (λk=>Ef c p (Xs (⟨h0,G8,0⟩,0) (o.take k)).1.h (Xs (⟨h0,G8,0⟩,0) (o.take k)).1.b) (λ_=>True) trivial (by simp[Xs]) ?_ ?_ ?_
 ·simp[Xs,Ef];rw[Yd hp];exact⟨rfl,rfl⟩
 ·intro k Z _ R rn re rr rp;have wk:=w_s k (by omega);have av:=X2k (s:=(⟨h0,G8,0⟩,0)) Z;have f:=WI (o.take k) (⟨h0,G8,0⟩,0) ⟨hh,rfl,by simp⟩;rw[av]at rn;have aw:=ag _ (Ci Z);generalize ax:o[k]=x0 at *;generalize Xs (⟨h0,G8,0⟩,0) (o.take k)=st at *;obtain⟨s0,t0⟩:=st;simp only at f rn⊢;simp[Xyf,Z,ax,Nr];refine Au.go (ι:=Cx×List Int) (λi=>[(0,.fn 219 [.ptr p []] []),(4,.ptr (AA c) []),(5,.d (.int .i64 i.1.n)),(6,.d (.int .u64 (TJ t0 x0))),(8,.d (.AH 1 (i.2.map Cg))),(11,.d (.AH 1 (o.map Nr))),(12,.d (.int .i64 o.length)),(13,.d (.int .i64 k))])
   (λi=>Ef c p i.1.h i.1.b) (λi=>i.1.ok/\i.2.length<=9223372036854775807/\G9 i.2.length i.1 i.2=G9 x0.length s0 x0) (λi=>i.2.length) (s0,x0) ⟨f,aw,rfl⟩ (by simp[TJ]) rfl ?_
  rintro⟨s,x⟩ ⟨T,sx,sf⟩ R' u Q ak aj;simp only at T sx sf u⊢;by_cases hx:x=[]
  ·subst hx;rw[SR]at sf;simp[Xye];refine Q _ _ _ ?_;simp[wk];refine rn [] _ _ trivial ?_ ?_ ?_ ?_
   ·simp[sf]
   ·simp only[g,L,sf]
   ·simp[AD,g];omega
   ·simp only[g];exact N _ _ _
  ·have ay:0<x.length:=List.length_pos_iff.2 hx;have a6:¬(x.length:Int)<=0:=by omega
   have sn:=T.n;have Tn:(s.n:Int)<=64:=by omega
   simp[Xye,ay,Tn,W,T.b,U];have ov:JK s.n (s.b.map Cg) (List.take (64-s.n) (x.map Cg))=(Ga s.n s.b (x.take (64-s.n))).map Cg:=by rw[<-Kv,Xz0]
   have ab:(Ga s.n s.b (x.take (64-s.n))).length=64:=by rw[kP,T.b];have:=T.b;simp;omega
   have wn:IntKind.i64.wrap ((s.n:Int)+(min x.length (64-s.n):Nat))=((s.n+min x.length (64-s.n):Nat):Int):=by rw[w_i _ (by omega)];push_cast;rfl
   have l:s.put x=if s.n+min x.length (64-s.n)=64 then⟨LM s.h (Ga s.n s.b (x.take (64-s.n))),Ga s.n s.b (x.take (64-s.n)),0⟩ else⟨s.h,Ga s.n s.b (x.take (64-s.n)),s.n+min x.length (64-s.n)⟩:=rfl;have ah:=UA T x;have ap:=X6x T hx;rw[ap]at sf;have ac:∀b:List Int,∀a∈b,(Cg a).shape.size=1:=λb a _=>rfl;have a2:∀b:List Int,∀a∈b,(Cg a).sz=1:=λb a _=>rfl;have ai:=SY (xs:=Ga s.n s.b (x.take (64-s.n))) (ys:=s.b) (by rw[ab,T.b]);have aq:min x.length (64-s.n)<=x.length:=Nat.min_le_left _ _;have a3:0<min x.length (64-s.n):=by omega
   rw[ov,wn,<-List.map_drop];generalize a4:min x.length (64-s.n)=m at *;generalize Ga s.n s.b (x.take (64-s.n))=F at *;refine⟨ac _,by omega,a2 _,by simpa[D.shape]using ai,aq,λe=>?_,λe=>?_⟩
   ·have e':s.n+m=64:=by omega
    rw[BS e']at l;refine⟨by simp[ab],?_,UW hP,?_⟩
    ·intro a ha;obtain⟨z,_,rfl⟩:=DY.1 ha;rfl
    refine dy hP hK T.h ab (by rw[J];exact lh _ _) (by rw[J];exact W _ _) ?_;rw[J,sh];simp[Yew];refine u [] (s.put x,x.drop m) _ _ ⟨ah,by simp only[List.length_drop];omega,sf⟩ (by simp only[List.length_drop];omega) ?_ ?_ ?_ ?_
    ·simp[l]
    ·simp only[g,L,l]
    ·simp[AD,g];omega
    ·simp only[g];exact N _ _ _
   ·have e':¬s.n+m=64:=by omega
    rw[Aq e']at l;rw[J];refine u [] (s.put x,x.drop m) _ _ ⟨ah,by simp only[List.length_drop];omega,sf⟩ (by simp only[List.length_drop];omega) ?_ ?_ ?_ ?_
    ·simp[l]
    ·simp only[g,L,l]
    ·simp[AD,g];omega
    ·simp only[g];exact N _ _ _
 ·intro _ R re rr rp;simp[Xyf];refine re _ _ _ ?_
  try simp only[FV]
  have f:=WI o (⟨h0,G8,0⟩,0) ⟨hh,rfl,by simp⟩;have hF:IS h0 o=Cq (Xs (⟨h0,G8,0⟩,0) o):=rfl;rw[hF]at h;generalize Xs (⟨h0,G8,0⟩,0) o=st at *;obtain⟨s,t⟩:=st;replace f:s.ok:=f
  try dsimp only
  have sn:=f.n;have Tn:(s.n:Int)<64:=by omega
  have wn:IntKind.i64.wrap ((s.n:Int)+1)=((s.n+1:Nat):Int):=by rw[w_i _ (by omega)];push_cast;rfl
  have bn:=Zg (w:=s.b) (k:=s.n) (by rw[f.b];omega);have ac:∀b:List Int,∀a∈b.map Cg,a.shape.size=1:=λb a ha=>by
   obtain⟨y,_,rfl⟩:=DY.1 ha;rfl
  have al:(s.b.map Cg).set s.n (D.int IntKind.u8 128)=(s.b.set s.n 128).map Cg:=by rw[GG];rfl
  have an:(s.b.set s.n 128).length=64:=by simp[f.b]
  have ad:∀k∈(List.map (V.d∘Cg) s.b).set s.n (V.d (D.int IntKind.u8 128)),k.shape.size=1:=by
   intro k Z;have e:(List.map (V.d∘Cg) s.b).set s.n (V.d (D.int IntKind.u8 128))=(s.b.set s.n 128).map (V.d∘Cg):=by rw[GG];rfl
   rw[e]at Z;obtain⟨y,_,rfl⟩:=DY.1 Z;rfl
  have a0:JK (s.n+1) ((s.b.set s.n 128).map Cg) (List.replicate (63-s.n) (D.int IntKind.u8 0))=(I4 s).map Cg:=by
   have:(List.replicate (63-s.n) (D.int IntKind.u8 0))=(List.replicate (64-(s.n+1)) (0:Int)).map Cg:=by
    rw[List.map_replicate];congr 1;omega
   rw[this,Xz0];rfl
  have O:=Xz2 f;have a1:=SY (xs:=I4 s) (ys:=s.b.set s.n 128) (by rw[O,an]);have pz:63-s.n=0->I4 s=s.b.set s.n 128:=λe=>by
   have:64-(s.n+1)=0:=by omega
   rw[I4,this,List.replicate_zero,Yhs]
  have X:∀q:Xe,Zb P [] P6 (Hx (AA c) [] K) ((0,.fn 219 [.ptr p []] [])::(4,.ptr (AA c) [])::(6,.d (.int .u64 t))::q) (Ef c p (Gi s).h (Gi s).b):=by
   intro q;have h1:=Yl3 f;have h2:=Y35 f;have ao:Cq (s,t)=LM (Gi s).h (U9 (J4 t) (Gi s).b 8):=rfl;rw[ao]at h;generalize (Gi s).h=r at *;generalize (Gi s).b=G at *;simp[Yeu];refine EC 8 (λk=>[(0,.fn 219 [.ptr p []] []),(4,.ptr (AA c) []),(6,.d (.int .u64 t)),(53,.d (.int .i64 k))]) (λk=>Ef c p r (U9 (J4 t) G k)) (λ_=>True) trivial (by simp) rfl ?_ ?_
   ·intro k Z _ R' u Q ak aj;have H:=sB (t:=t) h2 k;have hit:U9 (J4 t) G (k+1)=J4 t k (U9 (J4 t) G k):=rfl;rw[hit]at u;generalize U9 (J4 t) G k=F at *;have k8:(k:Int)<8:=by omega
    have wk:=w_s k (by omega);have w3:IntKind.i64.wrap (63-(k:Int))=((63-k:Nat):Int):=by rw[w_i _ (by omega)];omega
    have w8:IntKind.i64.wrap (8*(k:Int))=((8*k:Nat):Int):=by rw[w_i _ (by omega)];push_cast;rfl
    have az:((63-k:Nat):Int)<64:=by omega
    have bk:=Zg (w:=F) (k:=63-k) (by rw[H];omega);have au:J4 t k F=F.set (63-k) (IntKind.u8.wrap ((IntKind.u64.wrap (t*8)).fdiv (2 ^ min (8*k) IntKind.u64.bits))):=rfl;rw[au]at u;generalize 63-k=j at *;simp[Xyd,k8,wk,w3,w8,az,W,H,bk,nq];have t8:(8*(k:Int)).toNat=8*k:=by omega
    refine⟨λa _=>rfl,by omega,λa _=>rfl,by omega,rfl,rfl,?_⟩;rw[t8,<-GG,J];refine u [] _ _ trivial (by simp) ?_ ?_ ?_
    ·simp only[g,L]
    ·simp[AD,g];omega
    ·simp only[g];exact N _ _ _
   ·intro _ R' Q ak aj;have H:=sB (t:=t) h2 8;generalize U9 (J4 t) G 8=F at *;simp[Xyd];refine Q _ _ _ ?_;simp[W,H];refine⟨λa _=>rfl,UW hP,?_⟩;refine dy hP hK h1 H (lh _ _) (W _ _) ?_;rw[sh];simp;refine⟨[],by simp,?_,?_⟩
    ·simp[Ef,AD,ef];exact Af _ _ _ _ _ (by simpa[AD]using hm []) (by simp[AD])
    ·simpa[Ef,AD,ef]using h
  simp[W,f.b,U,Tn,bn,wn,nq,Cg];have c1:0<=(s.n:Int)+1/\(s.n:Int)+1<=64:=by omega
  have s2:∀hb F:List Int,F.length=64->Gi s=⟨hb,G8,0⟩->Zb P [] WB (Wh (Zb P [] P6 (Hx (AA c) [] K)) (Hx (AA c) [] K)) [(0,.fn 219 [.ptr p []] []),(4,.ptr (AA c) []),(6,.d (.int .u64 t))] (Ef c p hb F):=by
   intro hb F Y r;have t0:=X [];rw[r]at t0;have e0:JK 0 (F.map Cg) (List.replicate 64 (D.int IntKind.u8 0))=G8.map Cg:=by
    simp only[JK,List.take_zero,List.nil_append,List.length_replicate,Kx];rw[List.drop_eq_nil_of_le (by simp[Y])];rfl
   have s0:=SY (xs:=G8) (ys:=F) (by rw[Y];rfl);simp[Yev,W,Y,U,e0,-List.reduceReplicate];refine⟨λa _=>rfl,λa _=>rfl,by simpa[D.shape]using s0,?_⟩;rw[J];exact t0
  rw[al];rw[a0];have ae:s.n+1 > 56->AX P 219 [.ptr p [],.bs (AA c) [] 0 64] (Ef c p s.h (I4 s)) (Fs (λv aa=>Zb P [] WB (Wh (Zb P [] P6 (Hx (AA c) [] K)) (Hx (AA c) [] K)) [(0,.fn 219 [.ptr p []] []),(4,.ptr (AA c) []),(6,.d (.int .u64 t))] aa) λv aa=>Yk (AA c) (K (BN.panic v)) [v] aa):=by
   intro e;have r:Gi s=⟨LM s.h (I4 s),G8,0⟩:=by unfold Gi;rw[BS e]
   refine dy hP hK f.h O (lh _ _) (W _ _) ?_;rw[sh];simp;exact s2 _ _ O r
  have af:¬s.n+1 > 56->∀q,Zb P [] P6 (Hx (AA c) [] K) ((0,.fn 219 [.ptr p []] [])::(4,.ptr (AA c) [])::(6,.d (.int .u64 t))::q) (Ef c p s.h (I4 s)):=by
   intro e q;have r:Gi s=⟨s.h,I4 s,0⟩:=by unfold Gi;rw[Aq e]
   have:=X q
   rwa [r]at this
  refine⟨ad,c1,λe=>⟨λe1=>⟨ad,UW hP,?_⟩,λe1=>?_⟩,λe=>⟨by omega,U _,by simpa[D.shape]using a1,λe1=>⟨by simp[O],ac _,UW hP,?_⟩,λe1=>?_⟩⟩
  ·rw[<-pz e,J];exact ae (by omega)
  ·rw[<-pz e,J];exact af (by omega) _
  ·rw[J];exact ae (by omega)
  ·rw[J];exact af (by omega) _
omit hP
def iv:List Int:=[1779033703,3144134277,1013904242,2773480762,1359893119,2600822924,528734635,1541459225]
def K1(h:List Int)(i:Nat)(b:List Int):List Int:=b.set i (IntKind.u8.wrap ((ED h (i / 4)).fdiv (2 ^ min (24-8*(i % 4)) IntKind.u32.bits)))
def gK{h b:List Int}(a:b.length=32)(k:Nat):(U9 (K1 h) b k).length=32:=Up (I:=λb:List Int=>b.length=32) a (λk x c=>by simp[K1,c]) k
def HX(h:List Int):List Int:=U9 (K1 h) (List.replicate 32 0) 32
def TI(h:List Int):D:=.agg ((HX h).map Cg)
def V1(s:List UInt8):List Int:=s.map λc=>(c.toNat:Int)
def Ycs(h:List Int):TI h=.agg ((HX h).map Cg):=rfl
def VJ(h:List Int):(HX h).length=32:=gK (by simp) 32
def xv(s:List UInt8):BD s=(V1 s).map Cg:=by
 induction s with
 |nil=>rfl
 |cons c r a=>simp only[BD,V1,Cw]at a⊢;rw[a];rfl
def RB(a s:List UInt8):D:=TI (IS iv [HX (IS iv [V1 a]),V1 s])
section
variable {P:BA} (hPp:P.p=prog)
include hPp
theorem Ymk(u:Bx P 5 C0){e:List (List Int)}(l:e.length<=1000)(f:∀x∈e,x.length<=9223372036854775807){G:AF}{K:V->Prop}
 (h:K (.d (TI (IS iv e)))):AW P 153 [.d (.AH 1 (e.map Nr))] G K:=by
 refine AJ hPp AQ (ds:=[.AH 1 (e.map Nr)]) Zcx Y87 A4.nil ?_;have z:List.replicate 32 (D.int .u8 0)=(List.replicate 32 (0:Int)).map Cg:=rfl;simp[Y1i,-List.reduceReplicate,z];refine Yfa hPp u (h0:=iv) rfl l f (p:=1) (by simp[iv,Vw]) ?_;simp[Yes];have r:(IS iv e).length=8:=Yfi rfl;generalize IS iv e=a at *;refine EC 32 (λk=>[(2,.ptr 0 []),(3,.ptr 1 []),(9,.d (.int .i64 k))]) (λk=>[(1,.box 315 (.d (.agg (a.map Vw)))),(0,.box 53 (.d (.agg ((U9 (K1 a) (List.replicate 32 0) k).map Cg))))]) (λ_=>True) trivial (by simp) rfl ?_ ?_
 ·intro k W _ R o s L J;have c:=gK (h:=a) (b:=List.replicate 32 0) rfl k;have hit:U9 (K1 a) (List.replicate 32 0) (k+1)=K1 a k (U9 (K1 a) (List.replicate 32 0) k):=rfl;rw[hit]at o;generalize U9 (K1 a) (List.replicate 32 0) k=g at *;have n:(k:Int)<32:=by omega
  have T:=w_s k (by omega);have t:=Zg (w:=g) (k:=k) (by rw[c];omega);have i:=Zg (w:=a) (k:=k / 4) (by rw[r];omega);have H:IntKind.i64.wrap ((k:Int) / 4)=((k / 4:Nat):Int):=by rw[w_i _ (by omega)];omega
  have N:(k:Int).tmod 4=((k % 4:Nat):Int):=by rw[Int.tmod_eq_emod_of_nonneg (by omega)];omega
  have O:IntKind.i64.wrap (8*((k % 4:Nat):Int))=((8*(k % 4):Nat):Int):=by rw[w_i _ (by omega)];push_cast;rfl
  have Q:IntKind.i64.wrap (24-((8*(k % 4):Nat):Int))=((24-8*(k % 4):Nat):Int):=by rw[w_i _ (by omega)];omega
  have F:((k / 4:Nat):Int)<8:=by omega
  have m:K1 a k g=g.set k (IntKind.u8.wrap ((ED a (k / 4)).fdiv (2 ^ min (24-8*(k % 4)) IntKind.u32.bits))):=rfl;rw[m,GG]at o;generalize 24-8*(k % 4)=Z at *;generalize 8*(k % 4)=Y at *;generalize k % 4=X at *;generalize k / 4=j at *;simp[zP,n,T,c,t,i,r,nq,H,N,O,Q,F,Cg,Vw];refine o [] _ _ trivial (by simp) ?_ ?_ ?_
  ·simp[AD,Cg]
  ·simp[AD]
  ·simp[AD]
 ·intro _ R s L J;have c:=gK (h:=a) (b:=List.replicate 32 0) rfl 32;have q:HX a=U9 (K1 a) (List.replicate 32 0) 32:=rfl;unfold TI at h;rw[<-q]at c⊢;clear q;generalize HX a=U at *;simp[zP];refine s _ _ _ ?_;simp;refine⟨?_,h⟩;rw[T4,Er (sz:=1)]
  ·simp[c]
  ·intro x v;obtain⟨y,_,rfl⟩:=DY.1 v;rfl
omit hPp in
theorem wX(h:List Int):D.BM ((HX h).map Cg)=D.BM ((List.replicate 32 (0:Int)).map Cg):=by
 have:=SY (xs:=HX h) (ys:=List.replicate 32 (0:Int)) (by rw[VJ];rfl);simpa[D.shape]using this
attribute [local irreducible] IS HX TI
theorem Yik(o:Bx P 5 C0){c s:List UInt8}(w:c.length<=9223372036854775807)(v:s.length<=9223372036854775807){y:AF}{K:V->Prop}
 (h:K (.d (RB c s))):AW P 64 [.d (.AU c),.d (.AH 1 (BD s))] y K:=by
 rw[xv];refine AJ hPp AQ (ds:=[.AU c,.AH 1 ((V1 s).map Cg)]) Zs4 Zpz A4.nil ?_;have q:List.replicate 32 (D.int .u8 0)=(List.replicate 32 (0:Int)).map Cg:=rfl;simp[Zjv,-List.reduceReplicate,q];rw[xv];obtain⟨m,e⟩:∃m,m=List.replicate 32 (Cg 0):=⟨_,rfl⟩
 have j:Sh.BX (D.BM m)=32:=by rw[e];rfl
 have i:∀l:List Int,l.length=32->D.BM (l.map Cg)=D.BM m:=λl u=>by
  have:=SY (xs:=l) (ys:=List.replicate 32 (0:Int)) (by rw[u];rfl);rw[e];simpa[D.shape,-List.reduceReplicate]using this
 rw[<-e];clear e q;have r:V.d (D.AH 1 [D.AH 1 ((V1 c).map Cg)])=V.d (.AH 1 ([V1 c].map Nr)):=rfl;rw[r];refine Ymk hPp o (by simp) (by simpa[V1]using w) ?_;have f:=VJ (IS iv [V1 c]);unfold RB at h;rw[Ycs]at h⊢;generalize HX (IS iv [V1 c])=k at *;have n:∀b:List Int,∀a∈b,(Cg a).sz=1:=λb a _=>rfl;have t:V.d (D.AH 1 [D.AH 1 (k.map Cg),D.AH 1 ((V1 s).map Cg)])=V.d (.AH 1 ([k,V1 s].map Nr)):=rfl;simp[f,j,i k f];refine⟨n _,?_⟩;rw[t];refine Ymk hPp o (by simp) (λx p=>?_) ?_
 ·simp only[EJ,List.not_mem_nil,or_false]at p;rcases p with rfl|rfl
  ·rw[f];omega
  ·simpa[V1]using v
 have g:=VJ (IS iv [k,V1 s]);rw[Ycs];generalize HX (IS iv [k,V1 s])=dg at *;simp[i dg g,j];exact h
end
end Go.Ab
