/- Joined texts, part 11 of 13. The law's own examples hold (sane). Condition: the program is the seat's; its package variables are laid, its range Xfy a function is known. -/
import Derived.Test.YtghnkpkellnmdaaGreatDoorI9
import Derived.Test.YtghnkpkellnmdaaGreatDoorI10
set_option maxRecDepth 100000
set_option linter.unusedSimpArgs false
set_option linter.unusedVariables false
namespace Go.Ab
open Go Go.Proofs
variable {P:BA}(hP:P.p=Tryz.prog)
abbrev I7(x1 x2 x3 x4 x5 x6:List D)(o:D):D:=.agg [.agg [.AH 1 x1,.AH 5 x2,.AH 6 x3,.AH 5 x4,.AH 5 x5,.AH 3 x6],o]
include hP
set_option maxHeartbeats 4000000 in
theorem Ycl{x1 x2 x3 x5 x6:List D}{r:D}{dg:List D}(h:D.BM dg=D.BM (List.replicate 32 (.int .u8 0)))(x:dg.length=32)(v:(KT.int .u8).Df dg=true)(u:E1 dg dg=true)
 (y:∀a K,K (.BT [.d (I7 [] [] [] [] [] [] (.AH 1 [])),.d (iD 0)])->AW P 11 [.d (.agg [.Ad,.Ad,.Ad,.Ad,.Ad,.Ad])] a K)
 (k:∀a K,K (.BT [.d (I7 [] [] [] [] [] [] (.AH 1 [])),.d (iD 0),.d (iD 0)])->AW P 8 [.d (.AU [])] a K)
 (l:∀a K,K (.BT [.d Yp,.d (iD 6),.d (iD 100)])->AW P 8 [.d (.AU [115,99,104,101,109,97])] a K)
 (m:∀a K,K (.BT [.d Yp,.d (iD 0),.d (iD 141)])->AW P 8 [.d (.AU XM)] a K)
 (n:∀a K,K (.BT [.d (I7 x1 x2 x3 [r] x5 x6 (.AH 1 [iD 1,iD 0])),.d (iD 0),.d (iD 0)])->AW P 8 [.d (.AU TT)] a K)
 (o:∀a K,K (.BT [.d (I7 x1 x2 x3 [r] x5 x6 (.AH 1 [iD 1,iD 0])),.d (iD 0),.d (iD 0)])->AW P 8 [.d (.AU lJ)] a K)
 (p:∀a K,K (.BT [.d (.agg dg),.d (iD 0)])->AW P 15 [.d (I7 x1 x2 x3 [r] x5 x6 (.AH 1 [iD 1,iD 0]))] a K)
 (q:∀a K,K (.d (.bool true))->AW P 9 [.d (I7 [] [] [] [] [] [] (.AH 1 [])),.d Yp] a K)
 (i:∀a K,K (.d (iD 160))->AW P 16 [.d (.agg [.agg [.Ad,.Ad,.Ad,.Ad,.Ad,.Ad],.AH 1 [iD 0]])] a K)
 (j:∀a K,K (.d (iD 0))->AW P 16 [.d Yp] a K)
 (w:∀a K,K (.d (.bool true))->AW P 17 [.d (.AH 1 [iD 1,iD 0]),.d (.AH 1 [iD 1,iD 0])] a K)
 (s:∀a K,K (.d (.bool true))->AW P 18 [.d (I7 x1 x2 x3 [r] x5 x6 (.AH 1 [iD 1,iD 0])),.d (I7 x1 x2 x3 [r] x5 x6 (.AH 1 [iD 1,iD 0]))] a K)
 (t:∀a K,K (.d (.bool false))->AW P 18 [.d (I7 x1 x2 x3 [r] x5 x6 (.AH 1 [iD 1,iD 0])),.d (I7 [] [] [] [] [] [] (.AH 1 []))] a K)
 {a:AF} {K:V->Prop} (z:K (.d (.bool true))):AW P 5 [] a K:=by
 refine AJ hP AQ (ds:=[]) ok5 lf5 A4.nil ?_;have b:(I7 x1 x2 x3 [r] x5 x6 (.AH 1 [iD 1,iD 0])).shape=.node [.node [.AR,.AR,.AR,.AR,.AR,.AR],.AR]:=rfl;have c:(I7 [] [] [] [] [] [] (.AH 1 [])).shape=.node [.node [.AR,.AR,.AR,.AR,.AR,.AR],.AR]:=rfl;have e:Yp.shape=.node [.node [.AR,.AR,.AR,.AR,.AR,.AR],.AR]:=rfl;simp[Et5,-List.reduceReplicate];refine y _ _ ?_;simp[Yvg,b,c,e,-List.reduceReplicate];refine k _ _ ?_;simp[Yvf,b,c,e,-List.reduceReplicate];refine l _ _ ?_;simp[Yve,b,c,e,-List.reduceReplicate];refine m _ _ ?_;simp[Yvd,b,c,e,-List.reduceReplicate];refine n _ _ ?_;simp[Yvc,b,c,e,-List.reduceReplicate];refine o _ _ ?_;simp[aP,b,c,e,-List.reduceReplicate];have g:Sh.BX (D.BM (List.replicate 32 (D.int IntKind.u8 0)))=32:=by decide
 have f:(D.agg dg).shape=Sh.node (D.BM (List.replicate 32 (D.int IntKind.u8 0))):=by simp only[D.shape,h]
 refine p _ _ ?_;simp[Yjo,b,c,e,f,g,-List.reduceReplicate];refine⟨h,p _ _ ?_⟩;simp[Yvb,-zn,↓Wc,↓ql,↓qn,↓qi,↓wg,↓zy,↓we,↓wh,↓wc,↓wo,b,c,e,f,g,-List.reduceReplicate];refine⟨h,q _ _ ?_⟩;simp[-zn,↓Wc,↓ql,↓qn,↓qi,↓wg,↓zy,↓we,↓wh,↓wc,↓wo,b,c,e,f,g,-List.reduceReplicate];refine q _ _ ?_;simp[-zn,↓Wc,↓ql,↓qn,↓qi,↓wg,↓zy,↓we,↓wh,↓wc,↓wo,b,c,e,f,g,-List.reduceReplicate];refine i _ _ ?_;simp[-zn,↓Wc,↓ql,↓qn,↓qi,↓wg,↓zy,↓we,↓wh,↓wc,↓wo,b,c,e,f,g,-List.reduceReplicate];refine j _ _ ?_;simp[-zn,↓Wc,↓ql,↓qn,↓qi,↓wg,↓zy,↓we,↓wh,↓wc,↓wo,b,c,e,f,g,-List.reduceReplicate];refine w _ _ ?_;simp[-zn,↓Wc,↓ql,↓qn,↓qi,↓wg,↓zy,↓we,↓wh,↓wc,↓wo,b,c,e,f,g,-List.reduceReplicate];refine s _ _ ?_;have F:Sh.BX (D.BM dg)=32:=by rw[h];exact g
 simp[-zn,↓Wc,↓ql,↓qn,↓qi,↓wg,↓zy,↓we,↓wh,↓wc,↓wo,b,c,e,f,g,-List.reduceReplicate,u,x,v,F];refine t _ _ ?_;simp[-zn,↓Wc,↓ql,↓qn,↓qi,↓wg,↓zy,↓we,↓wh,↓wc,↓wo,b,c,e,f,g,-List.reduceReplicate,u];exact z
omit hP
theorem Sa:HD.BF/\HD.DO:=by
 have h:=dD (Uq TT).1 (Uq TT).2.1;rw[Y38]at h;exact⟨h.1,h.2.1⟩
theorem sT:D.le Yp (.agg [Yv.enc,X4 []]):=.agg (.cons Qy (.cons (.nil 1) .nil))
theorem Ymc:Ia Yv=.agg [Yv.enc,X4 []]:=by rw[Ia,Lz.2.2];rfl
theorem Y4d:Ia HD=.agg [HD.enc,X4 [1,0]]:=by rw[Ia,SH.2];rfl
theorem Yf8(a s:List UInt8):∃X,RB a s=.agg ((HX X).map Cg):=⟨_,rfl⟩
theorem wy:∀l:List Int,E1 (l.map Cg) (l.map Cg)=true
|[]=>rfl
|x::r=>by
 have h:=wy r;simp[E1,Cy,Cg]at h⊢;exact h
theorem uX:∀l:List Int,(KT.int .u8).Df (l.map Cg)=true
|[]=>rfl
|x::r=>by
 have h:=uX r;simp[KT.Df,KT.Bm,Cg]at h⊢;exact h
include hP
theorem Yij(e:Bx P 5 C0){s o:D}{txt:B}(f:s.shape=.node [.AR,.AR,.AR,.AR,.AR,.AR])(i:o.shape=.AR)(g:∃l,s=.agg l)(n:txt.length<=9223372036854775807)
 (m:∀c K,K (.d (iD 0))->AW P 16 [.d (.agg [s,o])] c K)
 (p:∀c K,K (.BT [.d (.AU txt),.d (iD 0)])->AW P 14 [.d s] c K) {c:AF} {K:V->Prop}
 (h:K (.BT [.d (RB [115,99,104,101,109,97,115] txt),.d (iD 0)])):AW P 15 [.d (.agg [s,o])] c K:=by
 refine AJ hP AQ (ds:=[.agg [s,o]]) Zr6 Zo1 A4.nil ?_;have t:s.sz=6:=by rw[<-Cb,f];rfl
 have r:o.sz=1:=by rw[<-Cb,i];rfl
 obtain⟨l,rfl⟩:=g;have a:D.BM l=[.AR,.AR,.AR,.AR,.AR,.AR]:=by
  simpa[D.shape]using f
 have u:Sh.BX [Sh.AR,.AR,.AR,.AR,.AR,.AR]=6:=rfl;have j:Sh.BX (D.BM (List.replicate 32 (D.int IntKind.u8 0)))=32:=by decide
 have q:List.replicate 32 (D.int .u8 0)=(List.replicate 32 (0:Int)).map Cg:=rfl;simp[Zir,f,i,t,r,a,-List.reduceReplicate];refine m _ _ ?_;simp[a,-List.reduceReplicate];refine p _ _ ?_;simp[a,-List.reduceReplicate];refine Yik hP e (by simp) n ?_;simp[-List.reduceReplicate];have b:(RB [115,99,104,101,109,97,115] txt).shape=Sh.node (D.BM (List.replicate 32 (D.int .u8 0))):=by
  obtain⟨X,k⟩:∃X,RB [115,99,104,101,109,97,115] txt=.agg ((HX X).map Cg):=⟨_,rfl⟩
  rw[k,q];simp only[D.shape,wX]
 refine⟨b,j,by rw[b];exact j,rfl,h⟩
theorem ZJ(c:Ep P)(f:Dd P){s:B}{y:Ai}{t:D}(g:(Xn s).2=(0,0))(b:Vp (Xn s).1=(y,0))(a:HV y=0)(i:Ia y=t){j:AF}{K:V->Prop}(h:K (.BT [.d t,.d (iD 0),.d (iD 0)])):AW P 8 [.d (.AU s)] j K:=
 U5 hP c f s (λe=>absurd (by rw[g]) e) (λ_ e=>absurd (by rw[b]) e) λ_ _=>by rw[b,BS a,a,i];exact h
theorem Md(g:Ep P)(n:PL P)(f:Dd P)(j:Bx P 5 C0){c:AF}{K:V->Prop}(i:K (.d (.bool true))):AW P 5 [] c K:=by
 obtain⟨X,o⟩:=Yf8 [115,99,104,101,109,97,115] (Zv Ma);have m:((HX X).map Cg).length=32:=by rw[List.length_map,VJ]
 have k:=Sf hP f Ye.1 Ye.2 (by decide);have p:=Sf hP f Sa.1 Sa.2 (by decide);refine Ycl hP (x1:=[.AU [105]]) (x2:=[]) (x3:=[(KS [97] [105]).enc,(KS [98] [105]).enc]) (x5:=[]) (x6:=[]) (r:=(MT [97] [120] [98]).enc) (dg:=(HX X).map Cg) (by rw[wX];rfl) m (uX _) (wy _)
  (λc K h=>AW.le (.cons Qy .nil) (Xyy hP f Ye.1 Ye.2 (by decide) (by rw[BS Lz.2.1,Lz.2.1,Ymc];exact h)))
  (λc K h=>ZJ hP g f (by rw[Yl2]) (by rw[Yl2];exact Lz.1) Lz.2.1 Ymc h)
  (λc K h=>U5 hP g f _ (λ_=>by rw[mO];exact h) (λe=>absurd e (by rw[mO];decide)) (λe=>absurd e (by rw[mO];decide)))
  (λc K h=>U5 hP g f _ (λe=>absurd (by rw[Zfb]) e) (λ_ e=>absurd Zfe e) (λ_ _=>by rw[Y8f,Aq (by decide)];exact h))
  (λc K h=>ZJ hP g f Zfc Y38 SH.1 Y4d h)
  (λc K h=>ZJ hP g f Zfa Zfd SH.1 Y4d h)
  (λc K i=>?_)
  (λc K h=>AW.le (.cons (.refl _) (.cons sT .nil)) (gX hP Ye.1 (l:=[]) (by decide) h))
  (λc K h=>AW.le (.cons (.agg (.cons Qy (.cons (.refl _) .nil))) .nil) (eE hP (a:=[0]) Ye.1 Ye.2 k Lz.2.1 Lz.2.2 (by decide) h))
  (λc K h=>AW.le (.cons sT .nil) (eE hP (a:=[]) Ye.1 Ye.2 k Lz.2.1 Lz.2.2 (by decide) h))
  (λc K h=>uE hP (l:=[1,0]) (by decide) h)
  (λc K h=>gZ hP (x:=HD) Sa.1 (a:=[1,0]) (b:=[1,0]) (by decide) (by simpa using h))
  (λc K h=>gZ hP (x:=HD) Ye.1 (a:=[1,0]) (b:=[]) (by decide) (by simpa using h)) i
 refine Yij hP j (txt:=Zv Ma) rfl rfl ⟨_,rfl⟩ (Nat.le_of_ble_eq_true (by kernel_rfl)) (λc K h=>eE hP (a:=[1,0]) Sa.1 Sa.2 p SH.1 SH.2 (by decide) h) (λc K h=>Yqx hP g n h) ?_;rw[o];exact i
omit hP
end Go.Ab
