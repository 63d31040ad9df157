/- What both programs take of values, and what an instruction does to values and memory. No condition. -/
import Derived.Test.YtnomiclfiijniaaQE9
import Derived.Test.YtnomiclfiijniaaQS101
import Derived.Test.YtnomiclfiijniaaQS113
namespace Go.Proofs.Ytnomiclfiijniaa
set_option maxRecDepth 100000
set_option linter.unusedSimpArgs false
set_option linter.unusedVariables false
abbrev rS (ve n me m:Nat):Place:=.row 2 [[.sl ve 1 0 n,.sl me 1 0 m]]
abbrev rM (F:Func) (ve n:Nat) (c v:Int) (me m:Nat) (fu:Int):Place:=.row 6 [[.d (.rp 5 (dView (viewD F))),.sl ve 1 0 n,.d (.int .i64 c),.d (.int .i64 v),.sl me 1 0 m,.d (.int .i64 fu)]]
theorem takeV_len (vs l:List Int):(takeV vs l).length=l.length:=by simp [takeV]
theorem takeS_own (H:Heap) (R ve me m:Nat) (vs l:List Int) (hR:H[R]? = some (rS ve vs.length me m)) (hV:H[ve]? = some (.row 1 (rI vs))) (h1:l.length≤1000) (hT:∀ v∈l,0≤v∧v < vs.length) :
    CallsD Try.prog 98 [.ptr R 2 0 0,.d (dIntS l)] H fun r H'=>∃ s:AS Int,r=s.v∧Tr.era s=takeV vs l∧New H H' s:=by
  refine calls_of Try.func98 en_98 rfl (of_decide_eq_true rfl) (W_run mixed ⟨[],[],[],26,H.length,[0,1,4,5,7,8,9,10,11],[11]⟩ (fun _=>[]) (by kernel_rfl) ?_)
  simp only [Try.f98,stripX,stripOps,pickOps]
  simp [-V.flat,-V.one,one_int,one_bool,one_str,one_nilp,one_rp,one_nilsl,one_ro,one_cl,one_nilf,one_nili,one_ifc,one_ptr,one_sl,one_clo,flat_d,flat_ptr,flat_sl,flat_clo,flat_agg,retQ]
  refine W_loopH (α:=Nat × V × Heap) (fun a=>[(0,.ptr R 2 0 0),(5,a.2.1),(8,.d (dIntS l)),(9,.d (.int .i64 l.length)),(10,.d (.int .i64 a.1))]) (fun a=>a.2.2) (fun a=>a.1≤l.length∧Gr H.length ((l.map (mapL vs)).take a.1) a.2.1 a.2.2∧Only [] H a.2.2) (fun a=>l.length - a.1) (0,.d .nilsl,H) ?_ ⟨Nat.zero_le _,.inl ⟨rfl,rfl⟩,Only.refl _ _⟩ ?_
  · simp
  rintro ⟨k,v,H1⟩ ⟨hk,hg,ho⟩
  simp only [] at hk hg ho
  have hol:=ho.len
  have hlen:k≤l.length→((l.map (mapL vs)).take k).length=k:=fun h=>by simp;omega
  have wk:k < l.length→IntKind.i64.wrap ((k:Int) + 1)=((k + 1:Nat):Int):=fun h=>by rw [wrap_id] <;> omega
  have done:l.length≤k→(l.map (mapL vs)).take k=l.map (mapL vs):=fun h=>by rw [List.take_of_length_le (by simpa using h)]
  have hv:k < l.length→0≤l[k]?.getD 0∧l[k]?.getD 0 < vs.length:=fun h=>hT _ (by rw [List.getElem?_eq_getElem h];exact List.getElem_mem h)
  have qR:H1[R]? = some (rS ve vs.length me m):=(ho.at_ R (List.getElem?_eq_some_iff.1 hR).1 List.not_mem_nil).trans hR
  have qV:H1[ve]? = some (.row 1 (rI vs)):=(ho.at_ ve (List.getElem?_eq_some_iff.1 hV).1 List.not_mem_nil).trans hV
  have hg0:=hg
  rcases hg with ⟨q,rfl⟩ | ⟨id,rfl,hp,hi,hr⟩
  · have k0:k=0:=by have:=hlen hk;rw [q] at this;exact this.symm
    refine W_run mixed ⟨[],[],[],26,H.length,[0,1,4,5,7,8,9,10,11],[11]⟩ (fun _=>[]) (by kernel_rfl) ?_
    simp only [stripX,stripOps,pickOps]
    simp [-V.flat,-V.one,one_int,one_bool,one_str,one_nilp,one_rp,one_nilsl,one_ro,one_cl,one_nilf,one_nili,one_ifc,one_ptr,one_sl,one_clo,flat_d,flat_ptr,flat_sl,flat_clo,flat_agg,retQ,qR,qV]
    refine ⟨fun h=>⟨h,hv h,by have:=hv h;omega,k + 1,_,_,⟨by omega,Gr.new hol (by simp;omega) ?_ ?_,only_more ho⟩,by omega,rfl,rfl,wk h⟩,fun h=>hg0.fin ho fun H' h'=>⟨_,rfl,by rw [done h];exact era_ints _,h'⟩⟩
    · simp;omega
    · rw [take_mapL h,q];rfl
  · rw [hlen hk] at hg0 ⊢
    have hid:=(List.getElem?_eq_some_iff.1 hr).1
    have hr':∀ R:Heap,(H1++R)[id]? = some (.row 1 (rI ((l.map (mapL vs)).take k))):=fun R=>(List.getElem?_append_left hid).trans hr
    have hset:∀ (R:Heap) p,(H1++R).set id p=H1.set id p++R:=fun R p=>List.set_append_left _ _ hid
    have hlk:=hlen hk
    have hgf:l.length≤k→∃ r' H',Fin H.length H1 (.sl id 1 0 k) H' r'∧∃ s:AS Int,r'=s.v∧Tr.era s=takeV vs l∧New H H' s:=fun h=>by
      have:=hg0.fin (Q:=fun r H'=>∃ s:AS Int,r=s.v∧Tr.era s=takeV vs l∧New H H' s) ho fun H' h'=>⟨_,rfl,by rw [done h];exact era_ints _,h'⟩
      exact this
    generalize hm:(l.map (mapL vs)).take k=mm at hg0 hr' hlk
    have hml:mm.length=k:=hlk
    refine W_run mixed ⟨[],[],[],26,H.length,[0,1,4,5,7,8,9,10,11],[11]⟩ (fun _=>[]) (by kernel_rfl) ?_
    simp only [stripX,stripOps,pickOps]
    simp [-V.flat,-V.one,one_int,one_bool,one_str,one_nilp,one_rp,one_nilsl,one_ro,one_cl,one_nilf,one_nili,one_ifc,one_ptr,one_sl,one_clo,flat_d,flat_ptr,flat_sl,flat_clo,flat_agg,retQ,hr',hset,hml,qR,qV]
    subst hm
    refine ⟨fun h=>⟨h,hv h,by have:=hv h;omega,by omega,k + 1,_,_,⟨by omega,Gr.new2 hol (by simp;omega) (by simp;omega) ?_,only_dead ho hi⟩,by omega,rfl,rfl,wk h⟩,fun h=>hgf h⟩
    rw [rI_snoc hlk.symm,take_mapL h];rfl
theorem fill_step {xs:List Int} {n k:Nat} (hn:xs.length=n) (h:k < n):(xs.take k++List.replicate (n - k) 0).set k (xs[k]?.getD 0)=xs.take (k + 1)++List.replicate (n - (k + 1)) 0:=by
  rw [List.set_append_right _ _ (by simp;omega),show n - k=(n - (k + 1)) + 1 by omega,List.replicate_succ,List.length_take,show k - min k xs.length=0 by omega,List.set_cons_zero,List.take_succ_eq_append_getElem (by omega),List.getElem?_eq_getElem (by omega),List.append_assoc]
  rfl
theorem takeV_get {vs l:List Int} {k:Nat} (h:k < l.length):(takeV vs l)[k]?.getD 0=vs[(l[k]?.getD 0).toNat]?.getD 0:=by
  unfold takeV
  rw [List.getElem?_map,List.getElem?_eq_getElem h];rfl
theorem takeI_own (H:Heap) (R ve me m:Nat) (F:Func) (c v fu:Int) (vs l:List Int) (hR:H[R]? = some (rM F ve vs.length c v me m fu)) (hV:H[ve]? = some (.row 1 (rI vs))) (h1:l.length≤1000) (hT:∀ v∈l,0≤v∧v < vs.length) :
    CallsD Try.prog 96 [.ptr R 6 0 0,.d (dIntS l)] H fun r H'=>∃ s:AS Int,r=s.v∧Tr.era s=takeV vs l∧New H H' s:=by
  refine calls_of Try.func96 en_96 rfl (of_decide_eq_true rfl) (W_run mixed ⟨[],[],[],30,H.length,[0,1,4,5,6,7,11,12,13,14],[14]⟩ (fun _=>[]) (by kernel_rfl) ?_)
  simp only [Try.f96,stripX,stripOps,pickOps]
  simp [-V.flat,-V.one,one_int,one_bool,one_str,one_nilp,one_rp,one_nilsl,one_ro,one_cl,one_nilf,one_nili,one_ifc,one_ptr,one_sl,one_clo,flat_d,flat_ptr,flat_sl,flat_clo,flat_agg,retQ]
  refine ⟨by omega, ?_⟩
  refine W_loopH (α:=Nat) (fun k=>[(0,.ptr R 6 0 0),(5,.sl H.length 1 0 l.length),(11,.d (dIntS l)),(12,.d (.int .i64 l.length)),(13,.d (.int .i64 k))]) (fun k=>H++[.row 1 (rI ((takeV vs l).take k++List.replicate (l.length - k) 0))]) (fun k=>k≤l.length) (fun k=>l.length - k) 0 ?_ (Nat.zero_le _) ?_
  · simp
  intro k hk
  have hRl:=(List.getElem?_eq_some_iff.1 hR).1
  have hVl:=(List.getElem?_eq_some_iff.1 hV).1
  have qR:∀ X:Heap,(H++X)[R]? = some (rM F ve vs.length c v me m fu):=fun X=>(List.getElem?_append_left hRl).trans hR
  have qV:∀ X:Heap,(H++X)[ve]? = some (.row 1 (rI vs)):=fun X=>(List.getElem?_append_left hVl).trans hV
  have qN:∀ p:Place,(H++[p])[H.length]? = some p:=fun p=>List.getElem?_concat_length
  have qS:∀ p q:Place,(H++[p]).set H.length q=H++[q]:=fun p q=>by rw [List.set_append_right _ _ (Nat.le_refl _)];simp
  have hv:k < l.length→0≤l[k]?.getD 0∧l[k]?.getD 0 < vs.length:=fun h=>hT _ (by rw [List.getElem?_eq_getElem h];exact List.getElem_mem h)
  have wk:k < l.length→IntKind.i64.wrap ((k:Int) + 1)=((k + 1:Nat):Int):=fun h=>by rw [wrap_id] <;> omega
  generalize hm:(takeV vs l).take k++List.replicate (l.length - k) 0=mm
  have hml:mm.length=l.length:=by rw [← hm];simp [takeV_len];omega
  refine W_run mixed ⟨[],[],[],30,H.length,[0,1,4,5,6,7,11,12,13,14],[14]⟩ (fun _=>[]) (by kernel_rfl) ?_
  simp only [stripX,stripOps,pickOps]
  simp [-V.flat,-V.one,one_int,one_bool,one_str,one_nilp,one_rp,one_nilsl,one_ro,one_cl,one_nilf,one_nili,one_ifc,one_ptr,one_sl,one_clo,flat_d,flat_ptr,flat_sl,flat_clo,flat_agg,retQ,qR,qV,qN,qS,hml]
  subst hm
  refine ⟨fun h=>⟨h,hv h,by have:=hv h;omega,h,k + 1,by omega,by omega, ?_,wk h⟩,fun h=>?_⟩
  · have e:=fill_step (takeV_len vs l) h
    rw [takeV_get h] at e
    rw [← List.map_take,← List.map_replicate (f:=fun n:Int=>[V.d (D.int IntKind.i64 n)]),← List.map_append,← e,List.map_set]
  · have e:(takeV vs l).take k++List.replicate (l.length - k) 0=takeV vs l:=by rw [List.take_of_length_le (by rw [takeV_len];omega),show l.length - k=0 by omega];simp
    rw [e]
    have:=fin_ints (H:=H) (R:=[.row 1 (rI (takeV vs l))]) (l:=takeV vs l) (id:=H.length) (r:=.sl H.length 1 0 (takeV vs l).length) (Q:=fun r H'=>∃ s:AS Int,r=s.v∧Tr.era s=takeV vs l∧New H H' s) (by simp) (Nat.le_refl _) fun H' h'=>⟨_,rfl,era_ints _,h'⟩
    rw [takeV_len] at this
    exact this
theorem takeS_cl (H:Heap) (R ve me m:Nat) (vs l:List Int) (hR:H[R]? = some (rS ve vs.length me m)) (hV:H[ve]? = some (.row 1 (rI vs))) (h1:l.length≤1000) (hT:∀ v∈l,0≤v∧v < vs.length) :
    CallsD Try.prog 98 [.ptr R 2 0 0,.d (dIntS l)] H fun r H'=>r=.d (dIntS (takeV vs l))∧∃ k,H'=H++List.replicate k .dead:=CallsD.closeS (takeS_own H R ve me m vs l hR hV h1 hT)
theorem takeI_cl (H:Heap) (R ve me m:Nat) (F:Func) (c v fu:Int) (vs l:List Int) (hR:H[R]? = some (rM F ve vs.length c v me m fu)) (hV:H[ve]? = some (.row 1 (rI vs))) (h1:l.length≤1000) (hT:∀ v∈l,0≤v∧v < vs.length) :
    CallsD Try.prog 96 [.ptr R 6 0 0,.d (dIntS l)] H fun r H'=>r=.d (dIntS (takeV vs l))∧∃ k,H'=H++List.replicate k .dead:=CallsD.closeS (takeI_own H R ve me m F c v fu vs l hR hV h1 hT)
theorem kill_app {H2 X:Heap} {n0:Nat} (h:H2.length=n0):kill n0 [] (H2++X)=H2++List.replicate X.length .dead:=by
  refine List.ext_getElem? fun j=>?_
  rw [kill_get]
  by_cases hj:j < H2.length
  · rw [List.getElem?_append_left hj,List.getElem?_append_left hj,List.getElem?_eq_getElem hj]
    simp [killP];omega
  · rw [List.getElem?_append_right (by omega),List.getElem?_append_right (by omega),List.getElem?_replicate]
    by_cases hx:j - H2.length < X.length
    · rw [List.getElem?_eq_getElem hx,if_pos hx]
      simp [killP];omega
    · rw [List.getElem?_eq_none (by omega),if_neg hx];rfl
def okX (x:Inst) (n:Nat):Prop:=(x.args_.length:Int)=arity x.op_∧∀ v∈x.args_,0≤v∧v < n
theorem okX_op {x:Inst} {n:Nat} (h:okX x n):x.op_=1∨(x.op_=12∧x.args_.length=1)∨(x.op_=13∧x.args_.length=2)∨(x.op_ ≠ 1∧x.op_ ≠ 12∧x.op_ ≠ 13∧okOp x.op_ x.args_):=by
  have e:=h.1
  unfold arity arity1 at e
  unfold okOp
  by_cases h12:x.op_=12
  · rw [if_pos h12] at e;omega
  rw [if_neg h12] at e
  by_cases h13:x.op_=13
  · rw [if_pos h13] at e;omega
  rw [if_neg h13] at e
  by_cases h2:x.op_=2
  · rw [if_pos h2] at e;omega
  rw [if_neg h2] at e
  by_cases h1:x.op_=1∨x.op_=2
  · omega
  rw [if_neg h1] at e
  by_cases h3:x.op_=3
  · rw [if_pos h3] at e;omega
  rw [if_neg h3] at e
  by_cases h11:x.op_=11
  · rw [if_pos h11] at e;omega
  rw [if_neg h11] at e
  cases hr:inR x.op_ 4 10 with
  | true =>
    rw [hr,if_pos rfl] at e
    have:=inR_t.1 hr
    omega
  | false =>
    rw [hr,if_neg (by decide)] at e
    omega
set_option maxHeartbeats 8000000 in
theorem doS_own (H:Heap) (R ve me:Nat) (x:Inst) (vs ms:List Int) (hR:H[R]? = some (rS ve vs.length me ms.length)) (hV:H[ve]? = some (.row 1 (rI vs))) (hM:H[me]? = some (.row 1 (rI ms))) (hm:ms.length=8) (hx:okX x vs.length) (ha:x.args_.length≤1000) :
    CallsD Try.prog 97 [.ptr R 2 0 0,vInst x] H fun r H'=>r=.tup [.d (.int .i64 (doV x vs ms).1),.d (.bool (doV x vs ms).2.1)]∧∃ k,H'=H.set me (.row 1 (rI (doV x vs ms).2.2))++List.replicate k .dead:=by
  have hRl:=(List.getElem?_eq_some_iff.1 hR).1
  have hVl:=(List.getElem?_eq_some_iff.1 hV).1
  have hMl:=(List.getElem?_eq_some_iff.1 hM).1
  have qR:∀ X:Heap,(H++X)[R]? = some (rS ve vs.length me ms.length):=fun X=>(List.getElem?_append_left hRl).trans hR
  have qV:∀ X:Heap,(H++X)[ve]? = some (.row 1 (rI vs)):=fun X=>(List.getElem?_append_left hVl).trans hV
  have qM:∀ X:Heap,(H++X)[me]? = some (.row 1 (rI ms)):=fun X=>(List.getElem?_append_left hMl).trans hM
  have qS:∀ (X:Heap) p,(H++X).set me p=H.set me p++X:=fun X p=>List.set_append_left _ _ hMl
  have qT:∀ (X:Heap) p,(H.set me p++X)[me]? = some p:=fun X p=>by rw [List.getElem?_append_left (by simpa using hMl),List.getElem?_set_self hMl]
  have qU:∀ (X:Heap) p,R ≠ me→(H.set me p++X)[R]? = some (rS ve vs.length me ms.length):=fun X p h=>by rw [List.getElem?_append_left (by simpa using hRl),List.getElem?_set_ne h.symm,hR]
  have same:H.set me (.row 1 (rI ms))=H:=set_same hM
  have hne:R ≠ me:=fun e=>by rw [e,hM] at hR;simp [rS] at hR
  refine calls_of Try.func97 en_97 rfl (of_decide_eq_true rfl) (W_run mixed ⟨[K_122],[K_122h],[98],59,H.length,[0,1,3,4,5,6,12,13,17,29,32],[13,17,24,29,32]⟩ (fun | 10=>[0,1,2,4,5,7,8,3,6,9,10,11] | 11=>[0,1,2,4,5,3,6,7,8,9,10] | _=>[]) (by kernel_rfl) ?_)
  simp only [Try.f97,stripX,stripOps,pickOps]
  simp [K_122_f,K_122_e,K_122h_f,K_122h_e,K_122h_g,-V.flat,-V.one,one_int,one_bool,one_str,one_nilp,one_rp,one_nilsl,one_ro,one_cl,one_nilf,one_nili,one_ifc,one_ptr,one_sl,one_clo,flat_d,flat_ptr,flat_sl,flat_clo,flat_agg]
  rw [aft_call]
  refine (takeS_cl _ R ve me _ vs x.args_ (qR _) (qV _) ha hx.2).mono ?_
  rintro r H1 ⟨rfl,k,rfl⟩
  have qF:∀ {X:Heap} {r r0:V},r=r0→∃ r' H',Fin H.length (H++X) r H' r'∧r'=r0∧∃ k,H'=H++List.replicate k .dead:=fun {X r r0} e=>⟨_,_,Fin.kill [] (by simp),e,_,kill_app rfl⟩
  have qG:∀ {X:Heap} {p:Place} {r r0:V},r=r0→∃ r' H',Fin H.length (H.set me p++X) r H' r'∧r'=r0∧∃ k,H'=H.set me p++List.replicate k .dead:=fun {X p r r0} e=>⟨_,_,Fin.kill [] (by simp),e,_,kill_app (by simp)⟩
  obtain ⟨o,n,a⟩:=x
  rcases okX_op hx with h | ⟨h,hl⟩ | ⟨h,hl⟩ | ⟨h1,h2,h3,hop⟩
  · simp only [] at h
    subst h
    have e:doV ⟨1,n,a⟩ vs ms=(n,false,ms):=by simp [doV]
    rw [e]
    simp [K_122_f,K_122_e,K_122h_f,K_122h_e,K_122h_g,-V.flat,-V.one,one_int,one_bool,one_str,one_nilp,one_rp,one_nilsl,one_ro,one_cl,one_nilf,one_nili,one_ifc,one_ptr,one_sl,one_clo,flat_d,flat_ptr,flat_sl,flat_clo,flat_agg,qR,qV,qM,qS,qT,retQ,same]
    exact qF rfl
  · simp only [] at h hl
    subst h
    obtain ⟨z,hz⟩:=List.length_eq_one_iff.1 ((takeV_len vs a).trans hl)
    simp only [doV,hz,mapL]
    simp [K_122_f,K_122_e,K_122h_f,K_122h_e,K_122h_g,-V.flat,-V.one,one_int,one_bool,one_str,one_nilp,one_rp,one_nilsl,one_ro,one_cl,one_nilf,one_nili,one_ifc,one_ptr,one_sl,one_clo,flat_d,flat_ptr,flat_sl,flat_clo,flat_agg,qR,qV,qM,qS,qT,retQ,hm,hz,mapL,same]
    refine ⟨fun q=>?_,fun q=>⟨fun q2=>?_,fun q2=>⟨⟨q,q2⟩,q2, ?_⟩⟩⟩
    · simp only [if_pos (Or.inl q:z < 0∨8≤z),same];exact qF rfl
    · simp only [if_pos (Or.inr q2:z < 0∨8≤z),same];exact qF rfl
    · simp only [if_neg (by omega:¬ (z < 0∨8≤z)),same];exact qF rfl
  · simp only [] at h hl
    subst h
    obtain ⟨z,y,hz⟩:=len2 ((takeV_len vs a).trans hl)
    simp only [doV,hz,mapL]
    have rset:∀ (i:Nat) (y:Int),(List.map (fun n:Int=>[V.d (D.int .i64 n)]) ms).set i [V.d (.int .i64 y)]=List.map (fun n:Int=>[V.d (D.int .i64 n)]) (ms.set i y):=fun i y=>(List.map_set).symm
    simp [K_122_f,K_122_e,K_122h_f,K_122h_e,K_122h_g,-V.flat,-V.one,one_int,one_bool,one_str,one_nilp,one_rp,one_nilsl,one_ro,one_cl,one_nilf,one_nili,one_ifc,one_ptr,one_sl,one_clo,flat_d,flat_ptr,flat_sl,flat_clo,flat_agg,qR,qV,qM,qS,qT,qU,hne,retQ,hm,hz,mapL,same,rset,-List.map_set]
    refine ⟨fun q=>?_,fun q=>⟨fun q2=>?_,fun q2=>?_⟩⟩
    · simp only [if_pos (Or.inl q:z < 0∨8≤z),same];exact qF rfl
    · simp only [if_pos (Or.inr q2:z < 0∨8≤z),same];exact qF rfl
    · simp only [if_neg (by omega:¬ (z < 0∨8≤z))]
      refine ⟨⟨q,q2⟩,q2,⟨q,q2⟩,q2, ?_⟩
      exact qG rfl
  · simp only [] at h1 h2 h3 hop
    have hop2:okOp o (takeV vs a):=by unfold okOp;rw [takeV_len];exact hop
    simp only [doV,h1,h2,h3]
    simp [K_122_f,K_122_e,K_122h_f,K_122h_e,K_122h_g,-V.flat,-V.one,one_int,one_bool,one_str,one_nilp,one_rp,one_nilsl,one_ro,one_cl,one_nilf,one_nili,one_ifc,one_ptr,one_sl,one_clo,flat_d,flat_ptr,flat_sl,flat_clo,flat_agg,qR,qV,qM,qS,qT,retQ,h1,h2,h3,hop2,same]
    exact qF rfl
set_option maxHeartbeats 8000000 in
theorem doI_own (H:Heap) (R ve me:Nat) (F:Func) (c v fu:Int) (x:Inst) (vs ms:List Int) (hR:H[R]? = some (rM F ve vs.length c v me ms.length fu)) (hV:H[ve]? = some (.row 1 (rI vs))) (hM:H[me]? = some (.row 1 (rI ms))) (hm:ms.length=8) (hx:okX x vs.length) (ha:x.args_.length≤1000) :
    CallsD Try.prog 94 [.ptr R 6 0 0,vInst x] H fun r H'=>r=.tup [.d (.int .i64 (doV x vs ms).1),.d (.bool (!(doV x vs ms).2.1))]∧∃ k,H'=H.set me (.row 1 (rI (doV x vs ms).2.2))++List.replicate k .dead:=by
  have hRl:=(List.getElem?_eq_some_iff.1 hR).1
  have hVl:=(List.getElem?_eq_some_iff.1 hV).1
  have hMl:=(List.getElem?_eq_some_iff.1 hM).1
  have qR:∀ X:Heap,(H++X)[R]? = some (rM F ve vs.length c v me ms.length fu):=fun X=>(List.getElem?_append_left hRl).trans hR
  have qV:∀ X:Heap,(H++X)[ve]? = some (.row 1 (rI vs)):=fun X=>(List.getElem?_append_left hVl).trans hV
  have qM:∀ X:Heap,(H++X)[me]? = some (.row 1 (rI ms)):=fun X=>(List.getElem?_append_left hMl).trans hM
  have qS:∀ (X:Heap) p,(H++X).set me p=H.set me p++X:=fun X p=>List.set_append_left _ _ hMl
  have qT:∀ (X:Heap) p,(H.set me p++X)[me]? = some p:=fun X p=>by rw [List.getElem?_append_left (by simpa using hMl),List.getElem?_set_self hMl]
  have qU:∀ (X:Heap) p,R ≠ me→(H.set me p++X)[R]? = some (rM F ve vs.length c v me ms.length fu):=fun X p h=>by rw [List.getElem?_append_left (by simpa using hRl),List.getElem?_set_ne h.symm,hR]
  have same:H.set me (.row 1 (rI ms))=H:=set_same hM
  have hne:R ≠ me:=fun e=>by rw [e,hM] at hR;simp [rM] at hR
  have qF:∀ {X:Heap} {r r0:V},r=r0→∃ r' H',Fin H.length (H++X) r H' r'∧r'=r0∧∃ k,H'=H++List.replicate k .dead:=fun {X r r0} e=>⟨_,_,Fin.kill [] (by simp),e,_,kill_app rfl⟩
  have qG:∀ {X:Heap} {p:Place} {r r0:V},r=r0→∃ r' H',Fin H.length (H.set me p++X) r H' r'∧r'=r0∧∃ k,H'=H.set me p++List.replicate k .dead:=fun {X p r r0} e=>⟨_,_,Fin.kill [] (by simp),e,_,kill_app (by simp)⟩
  by_cases h1:x.op_=1
  · have e:doV x vs ms=(x.n_,false,ms):=by simp [doV,h1]
    rw [e]
    refine calls_of Try.func94 en_94 rfl (of_decide_eq_true rfl) (W_run mixed ⟨[K_121],[K_121h],[96],71,H.length,[0,1,3,4,5,6,7,8,11,25,45,48],[11,21,25,40,45,48]⟩ (fun | 10=>[0,1,2,3,5,6,8,9,4,7,10,11,12] | 11=>[0,1,2,3,5,6,4,7,8,9,10,11] | _=>[]) (by kernel_rfl) ?_)
    simp only [Try.f94,stripX,stripOps,pickOps]
    simp [K_121_f,K_121_e,K_121h_f,K_121h_e,K_121h_g,-V.flat,-V.one,one_int,one_bool,one_str,one_nilp,one_rp,one_nilsl,one_ro,one_cl,one_nilf,one_nili,one_ifc,one_ptr,one_sl,one_clo,flat_d,flat_ptr,flat_sl,flat_clo,flat_agg,retQ,h1,same]
    exact qF rfl
  refine calls_of Try.func94 en_94 rfl (of_decide_eq_true rfl) (W_run mixed ⟨[K_121],[K_121h],[96],71,H.length,[0,1,3,4,5,6,7,8,11,25,45,48],[11,21,25,40,45,48]⟩ (fun | 10=>[0,1,2,3,5,6,8,9,4,7,10,11,12] | 11=>[0,1,2,3,5,6,4,7,8,9,10,11] | _=>[]) (by kernel_rfl) ?_)
  simp only [Try.f94,stripX,stripOps,pickOps]
  simp [K_121_f,K_121_e,K_121h_f,K_121h_e,K_121h_g,-V.flat,-V.one,one_int,one_bool,one_str,one_nilp,one_rp,one_nilsl,one_ro,one_cl,one_nilf,one_nili,one_ifc,one_ptr,one_sl,one_clo,flat_d,flat_ptr,flat_sl,flat_clo,flat_agg,h1]
  rw [aft_call]
  refine (takeI_cl _ R ve me _ F c v fu vs x.args_ (qR _) (qV _) ha hx.2).mono ?_
  rintro r H1 ⟨rfl,k,rfl⟩
  obtain ⟨o,n,a⟩:=x
  rcases okX_op hx with h | ⟨h,hl⟩ | ⟨h,hl⟩ | ⟨h1,h2,h3,hop⟩
  · exact absurd h h1
  · simp only [] at h hl
    subst h
    obtain ⟨z,hz⟩:=List.length_eq_one_iff.1 ((takeV_len vs a).trans hl)
    simp only [doV,hz,mapL]
    simp [K_121_f,K_121_e,K_121h_f,K_121h_e,K_121h_g,-V.flat,-V.one,one_int,one_bool,one_str,one_nilp,one_rp,one_nilsl,one_ro,one_cl,one_nilf,one_nili,one_ifc,one_ptr,one_sl,one_clo,flat_d,flat_ptr,flat_sl,flat_clo,flat_agg,qR,qV,qM,qS,qT,retQ,hm,hz,mapL,same]
    refine ⟨fun q=>?_,fun q=>⟨fun q2=>?_,fun q2=>⟨⟨q,q2⟩,q2, ?_⟩⟩⟩
    · simp only [if_pos (Or.inl q:z < 0∨8≤z),same];exact qF rfl
    · simp only [if_pos (Or.inr q2:z < 0∨8≤z),same];exact qF rfl
    · simp only [if_neg (by omega:¬ (z < 0∨8≤z)),same];exact qF rfl
  · simp only [] at h hl
    subst h
    obtain ⟨z,y,hz⟩:=len2 ((takeV_len vs a).trans hl)
    simp only [doV,hz,mapL]
    have rset:∀ (i:Nat) (y:Int),(List.map (fun n:Int=>[V.d (D.int .i64 n)]) ms).set i [V.d (.int .i64 y)]=List.map (fun n:Int=>[V.d (D.int .i64 n)]) (ms.set i y):=fun i y=>(List.map_set).symm
    simp [K_121_f,K_121_e,K_121h_f,K_121h_e,K_121h_g,-V.flat,-V.one,one_int,one_bool,one_str,one_nilp,one_rp,one_nilsl,one_ro,one_cl,one_nilf,one_nili,one_ifc,one_ptr,one_sl,one_clo,flat_d,flat_ptr,flat_sl,flat_clo,flat_agg,qR,qV,qM,qS,qT,qU,hne,retQ,hm,hz,mapL,same,rset,-List.map_set]
    refine ⟨fun q=>?_,fun q=>⟨fun q2=>?_,fun q2=>?_⟩⟩
    · simp only [if_pos (Or.inl q:z < 0∨8≤z),same];exact qF rfl
    · simp only [if_pos (Or.inr q2:z < 0∨8≤z),same];exact qF rfl
    · simp only [if_neg (by omega:¬ (z < 0∨8≤z))]
      refine ⟨⟨q,q2⟩,q2,⟨q,q2⟩,q2, ?_⟩
      exact qG rfl
  · simp only [] at h1 h2 h3 hop
    have hop2:okOp o (takeV vs a):=by unfold okOp;rw [takeV_len];exact hop
    simp only [doV,h1,h2,h3]
    simp [K_121_f,K_121_e,K_121h_f,K_121h_e,K_121h_g,-V.flat,-V.one,one_int,one_bool,one_str,one_nilp,one_rp,one_nilsl,one_ro,one_cl,one_nilf,one_nili,one_ifc,one_ptr,one_sl,one_clo,flat_d,flat_ptr,flat_sl,flat_clo,flat_agg,qR,qV,qM,qS,qT,retQ,h1,h2,h3,hop2,same]
    exact qF rfl
end Go.Proofs.Ytnomiclfiijniaa
