/- The cursor of the draws: what it picks lies in its bounds. No condition. -/
import Derived.Test.YthafdegfjadijaaGreatQS41
import Derived.Test.YthafdegfjadijaaGreatQS111
namespace Go.Proofs.YthafdegfjadijaaGreat
set_option maxRecDepth 100000
set_option linter.unusedSimpArgs false
set_option linter.unusedVariables false
theorem wrap_rng (n:Int):-9223372036854775808≤IntKind.i64.wrap n∧IntKind.i64.wrap n≤9223372036854775807:=by
  have e1:(2:Int) ^ 64=18446744073709551616:=rfl
  have e2:(2:Int) ^ (64 - 1)=9223372036854775808:=rfl
  unfold IntKind.wrap
  simp only [IntKind.bits,IntKind.signed,Bool.true_and,decide_eq_true_eq,e1,e2]
  split <;> omega
abbrev rC (code:List Byt) (a s:Int):Place:=.row 3 [[.d (dBytS code),.d (.int .i64 a),.d (.int .u64 s)]]
theorem set_same {H:Heap} {C:Nat} {P:Place} (h:H[C]? = some P):H.set C P=H:=by
  refine List.ext_getElem? fun j=>?_
  have hl:=(List.getElem?_eq_some_iff.1 h).1
  by_cases e:C=j
  · rw [← e,List.getElem?_set_self hl,h]
  · rw [List.getElem?_set_ne e]
theorem low255 (n:Nat):0≤IntKind.i64.wrap (IntKind.u64.wrap ((n &&& 255 % 2 ^ IntKind.u64.bits:Nat):Int))∧IntKind.i64.wrap (IntKind.u64.wrap ((n &&& 255 % 2 ^ IntKind.u64.bits:Nat):Int))≤255:=by
  have h:n &&& 255 % 2 ^ IntKind.u64.bits≤255:=Nat.and_le_right
  generalize n &&& 255 % 2 ^ IntKind.u64.bits=m at h
  have e:IntKind.u64.wrap (m:Int)=m:=by
    show (m:Int) % 2 ^ 64=m
    exact Int.emod_eq_of_lt (by omega) (by omega)
  rw [e,wrap_id (by omega) (by omega)];omega
theorem next_own (H:Heap) (C:Nat) (code:List Byt) (a s:Int) (hc:H[C]? = some (rC code a s)) (hg:Enc.good code) (h0:0≤a) (h1:a≤1000000000000) :
    CallsD Tryz.prog 103 [.ptr C 3 0 0] H fun r H'=>∃ n s':Int,r=.d (.int .i64 n)∧(0≤n∧n≤255)∧H'=H.set C (rC code (a + 1) s'):=by
  have hlt:=(List.getElem?_eq_some_iff.1 hc).1
  have wa:IntKind.i64.wrap (a + 1)=a + 1:=wrap_id (by omega) (by omega)
  have hs:∀ P,(H.set C P)[C]? = some P:=fun P=>List.getElem?_set_self hlt
  by_cases h:a < code.length
  · obtain ⟨n,rfl⟩:=Int.eq_ofNat_of_zero_le h0
    have hn:n < code.length:=by omega
    obtain ⟨x,hx⟩:∃ x,code[n]? = some x:=⟨_,List.getElem?_eq_getElem hn⟩
    have hx1:code[n]?.getD default=x:=by rw [hx];rfl
    have hx2:∀ h:n < code.length,code[n]=x:=fun h=>Option.some.inj ((List.getElem?_eq_getElem h).symm.trans hx)
    have hgx:=hg.2 x (List.mem_of_getElem? hx)
    refine calls_of Tryz.func103 en_103 rfl (of_decide_eq_true rfl) (W_run mixed ⟨[],[],[],62,H.length,[0,2,3,13,53],[13,53]⟩ (fun | 2=>[0,1,2,4,5,6,3,7,8,9] | 3=>[0,1,2,4,5,6,3,7,8,9,10,11] | 6=>[0,1,2,4,5,6,3,7,8,9] | _=>[]) (by kernel_rfl) ?_)
    simp only [Tryz.f103,stripX,stripOps,pickOps]
    simp [-V.flat,-V.one,one_int,one_bool,one_str,one_nilp,one_rp,one_nilsl,one_ro,one_cl,one_nilf,one_nili,one_ifc,one_ptr,one_sl,one_clo,flat_d,flat_ptr,flat_sl,flat_clo,flat_agg,hc,hs,h,hn,hx1,hx2,wa]
    have hwx:IntKind.i64.wrap x.n=x.n:=wrap_id (by have:=hgx.1;omega) (by have:=hgx.2;omega)
    refine ⟨fun _=>?_,fun _=>?_⟩
    · simp [retQ]
      exact ⟨_,_,Fin.same (by simp),_,rfl,by rw [hwx];exact hgx,_,rfl⟩
    · simp [retQ]
      exact ⟨_,_,Fin.same (by simp),_,rfl,low255 _,_,rfl⟩
  · refine calls_of Tryz.func103 en_103 rfl (of_decide_eq_true rfl) (W_run mixed ⟨[],[],[],62,H.length,[0,2,3,13,53],[13,53]⟩ (fun | 2=>[0,1,2,4,5,6,3,7,8,9] | 3=>[0,1,2,4,5,6,3,7,8,9,10,11] | 6=>[0,1,2,4,5,6,3,7,8,9] | _=>[]) (by kernel_rfl) ?_)
    simp only [Tryz.f103,stripX,stripOps,pickOps]
    simp [-V.flat,-V.one,one_int,one_bool,one_str,one_nilp,one_rp,one_nilsl,one_ro,one_cl,one_nilf,one_nili,one_ifc,one_ptr,one_sl,one_clo,flat_d,flat_ptr,flat_sl,flat_clo,flat_agg,hc,hs,h,wa]
    refine ⟨fun _=>?_,fun _=>?_⟩
    · simp [retQ]
      exact ⟨_,_,Fin.same (by simp),_,rfl,by omega,_,rfl⟩
    · simp [retQ]
      exact ⟨_,_,Fin.same (by simp),_,rfl,low255 _,_,rfl⟩
def Cu (H:Heap) (C:Nat) (code:List Byt) (a k:Int) (H':Heap):Prop:=∃ a' s':Int,(a≤a'∧a'≤a + k)∧H'=H.set C (rC code a' s')
def pkOk (n x:Int):Prop:=(0≤x∧x≤65535)∧(n≤1→x=0)∧(1 < n→x < n)
theorem pkOk.lt {n x:Int} (h:pkOk n x) (hn:0 < n):0≤x∧x < n:=⟨h.1.1,by
  by_cases e:n≤1
  · rw [h.2.1 e];exact hn
  · exact h.2.2 (by omega)⟩
theorem pkOk_mod {n x:Int} (hn:¬ n≤1) (h0:0≤x) (h1:x≤65535):pkOk n (x.tmod n):=by
  have h2:0≤x.tmod n:=Int.tmod_nonneg _ h0
  have h3:x.tmod n < n:=Int.tmod_lt_of_pos _ (by omega)
  refine ⟨⟨h2, ?_⟩,fun h=>absurd h hn,fun _=>h3⟩
  by_cases e:x < n
  · rw [Int.tmod_eq_of_lt h0 e];exact h1
  · omega
theorem pick_own (H:Heap) (C:Nat) (code:List Byt) (a s n:Int) (hc:H[C]? = some (rC code a s)) (hg:Enc.good code) (h0:0≤a) (h1:a≤900000000000) :
    CallsD Tryz.prog 78 [.ptr C 3 0 0,.d (.int .i64 n)] H fun r H'=>∃ x:Int,r=.d (.int .i64 x)∧pkOk n x∧Cu H C code a 2 H':=by
  have hlt:=(List.getElem?_eq_some_iff.1 hc).1
  by_cases hn:n≤1
  · refine calls_of Tryz.func78 en_78 rfl (of_decide_eq_true rfl) (W_run mixed ⟨[],[],[103],20,H.length,[0,1,4,5,7,11],[7,11]⟩ (fun _=>[]) (by kernel_rfl) ?_)
    simp only [Tryz.f78,stripX,stripOps,pickOps]
    simp [-V.flat,-V.one,one_int,one_bool,one_str,one_nilp,one_rp,one_nilsl,one_ro,one_cl,one_nilf,one_nili,one_ifc,one_ptr,one_sl,one_clo,flat_d,flat_ptr,flat_sl,flat_clo,flat_agg,hn,retQ]
    exact ⟨_,_,Fin.same (by simp),0,rfl,⟨⟨by omega,by omega⟩,fun _=>rfl,fun h=>absurd hn (by omega)⟩,a,s,⟨by omega,by omega⟩,(set_same hc).symm⟩
  · refine calls_of Tryz.func78 en_78 rfl (of_decide_eq_true rfl) (W_run mixed ⟨[],[],[103],20,H.length,[0,1,4,5,7,11],[7,11]⟩ (fun _=>[]) (by kernel_rfl) ?_)
    simp only [Tryz.f78,stripX,stripOps,pickOps]
    simp [-V.flat,-V.one,one_int,one_bool,one_str,one_nilp,one_rp,one_nilsl,one_ro,one_cl,one_nilf,one_nili,one_ifc,one_ptr,one_sl,one_clo,flat_d,flat_ptr,flat_sl,flat_clo,flat_agg,hn]
    rw [aft_call]
    refine (next_own H C code a s hc hg h0 (by omega)).mono ?_
    rintro r H1 ⟨x,s1,rfl,hx,rfl⟩
    have hs:(H.set C (rC code (a + 1) s1))[C]? = some (rC code (a + 1) s1):=List.getElem?_set_self hlt
    have hz:¬ n=0:=by omega
    by_cases h2:200 < n
    · simp [-V.flat,-V.one,one_int,one_bool,one_str,one_nilp,one_rp,one_nilsl,one_ro,one_cl,one_nilf,one_nili,one_ifc,one_ptr,one_sl,one_clo,flat_d,flat_ptr,flat_sl,flat_clo,flat_agg,h2,hz,retQ]
      rw [aft_call]
      refine (next_own _ C code (a + 1) s1 hs hg (by omega) (by omega)).mono ?_
      rintro r H1 ⟨y,s2,rfl,hy,rfl⟩
      have w1:IntKind.i64.wrap (x * 256)=x * 256:=wrap_id (by omega) (by omega)
      have w2:IntKind.i64.wrap (x * 256 + y)=x * 256 + y:=wrap_id (by omega) (by omega)
      simp [-V.flat,-V.one,one_int,one_bool,one_str,one_nilp,one_rp,one_nilsl,one_ro,one_cl,one_nilf,one_nili,one_ifc,one_ptr,one_sl,one_clo,flat_d,flat_ptr,flat_sl,flat_clo,flat_agg,h2,hz,w1,w2,retQ]
      exact ⟨_,_,Fin.same (by simp),_,rfl,pkOk_mod hn (by omega) (by omega),a + 1 + 1,s2,⟨by omega,by omega⟩,by simp⟩
    · simp [-V.flat,-V.one,one_int,one_bool,one_str,one_nilp,one_rp,one_nilsl,one_ro,one_cl,one_nilf,one_nili,one_ifc,one_ptr,one_sl,one_clo,flat_d,flat_ptr,flat_sl,flat_clo,flat_agg,h2,hz,retQ]
      exact ⟨_,_,Fin.same (by simp),_,rfl,pkOk_mod hn (by omega) (by omega),a + 1,s1,⟨by omega,by omega⟩,rfl⟩
theorem one_own (H:Heap) (C:Nat) (code:List Byt) (a s n:Int) (hc:H[C]? = some (rC code a s)) (hg:Enc.good code) (h0:0≤a) (h1:a≤900000000000) :
    CallsD Tryz.prog 79 [.ptr C 3 0 0,.d (.int .i64 n)] H fun r H'=>∃ b:Bool,r=.d (.bool b)∧Cu H C code a 2 H':=by
  refine calls_of Tryz.func79 en_79 rfl (of_decide_eq_true rfl) (W_run mixed ⟨[],[],[78],9,H.length,[0,1,4],[]⟩ (fun _=>[]) (by kernel_rfl) ?_)
  simp only [Tryz.f79,stripX,stripOps,pickOps]
  simp [-V.flat,-V.one,one_int,one_bool,one_str,one_nilp,one_rp,one_nilsl,one_ro,one_cl,one_nilf,one_nili,one_ifc,one_ptr,one_sl,one_clo,flat_d,flat_ptr,flat_sl,flat_clo,flat_agg]
  rw [aft_call]
  refine (pick_own H C code a s n hc hg h0 h1).mono ?_
  rintro r H1 ⟨x,rfl,hx,hcu⟩
  have hl:H.length≤H1.length:=by obtain ⟨a',s',_,q⟩:=hcu;rw [q];simp
  simp [-V.flat,-V.one,one_int,one_bool,one_str,one_nilp,one_rp,one_nilsl,one_ro,one_cl,one_nilf,one_nili,one_ifc,one_ptr,one_sl,one_clo,flat_d,flat_ptr,flat_sl,flat_clo,flat_agg,retQ]
  by_cases e:x=0
  · exact ⟨_,_,Fin.same hl,by simp [e],hcu⟩
  · exact ⟨_,_,Fin.same hl,by simp [e],hcu⟩
theorem among_own (H:Heap) (C lid:Nat) (code:List Byt) (a s:Int) (l:List Int) (hc:H[C]? = some (rC code a s)) (hg:Enc.good code) (h0:0≤a) (h1:a≤900000000000) (hl:H[lid]? = some (.row 1 (rI l))) (hne:lid ≠ C) (hp:0 < l.length) (hp2:l.length≤1000) :
    CallsD Tryz.prog 119 [.ptr C 3 0 0,.sl lid 1 0 l.length] H fun r H'=>∃ x:Int,r=.d (.int .i64 x)∧x∈l∧Cu H C code a 2 H':=by
  refine calls_of Tryz.func119 en_119 rfl (of_decide_eq_true rfl) (W_run mixed ⟨[],[],[78],12,H.length,[0,1,4],[]⟩ (fun _=>[]) (by kernel_rfl) ?_)
  simp only [Tryz.f119,stripX,stripOps,pickOps]
  simp [-V.flat,-V.one,one_int,one_bool,one_str,one_nilp,one_rp,one_nilsl,one_ro,one_cl,one_nilf,one_nili,one_ifc,one_ptr,one_sl,one_clo,flat_d,flat_ptr,flat_sl,flat_clo,flat_agg]
  rw [aft_call]
  refine (pick_own H C code a s l.length hc hg h0 h1).mono ?_
  rintro r H1 ⟨x,rfl,hx,hcu⟩
  have hlen:H.length≤H1.length:=by obtain ⟨a',s',_,q⟩:=hcu;rw [q];simp
  obtain ⟨hx0,hx1⟩:=hx.lt (by omega)
  obtain ⟨n,rfl⟩:=Int.eq_ofNat_of_zero_le hx0
  have hn:n < l.length:=by omega
  have hr:H1[lid]? = some (.row 1 (rI l)):=by
    obtain ⟨a',s',_,q⟩:=hcu
    rw [q,List.getElem?_set_ne (fun e=>hne e.symm)];exact hl
  obtain ⟨y,hy⟩:∃ y,l[n]? = some y:=⟨_,List.getElem?_eq_getElem hn⟩
  have hy1:l[n]?.getD 0=y:=by rw [hy];rfl
  have hy2:∀ h:n < l.length,l[n]=y:=fun h=>Option.some.inj ((List.getElem?_eq_getElem h).symm.trans hy)
  simp [-V.flat,-V.one,one_int,one_bool,one_str,one_nilp,one_rp,one_nilsl,one_ro,one_cl,one_nilf,one_nili,one_ifc,one_ptr,one_sl,one_clo,flat_d,flat_ptr,flat_sl,flat_clo,flat_agg,retQ,hr,hn,hy,hy1,hy2]
  exact ⟨_,_,Fin.same hlen,_,rfl,List.mem_of_getElem? hy,hcu⟩
theorem last_own (H:Heap) (lid:Nat) (l:List Int) (hl:H[lid]? = some (.row 1 (rI l))) (hp:0 < l.length) (hp2:l.length≤1000) :
    CallsD Tryz.prog 106 [.sl lid 1 0 l.length] H fun r H'=>∃ x:Int,r=.d (.int .i64 x)∧x∈l∧H'=H:=by
  obtain ⟨n,hn⟩:∃ n,l.length=n + 1:=⟨l.length - 1,by omega⟩
  have w:IntKind.i64.wrap (((n + 1:Nat):Int) - 1)=n:=by rw [wrap_id] <;> omega
  have w2:IntKind.i64.wrap ((n:Int) + 1 - 1)=n:=by rw [wrap_id] <;> omega
  have w3:IntKind.i64.wrap (n:Int)=n:=wrap_id (by omega) (by omega)
  have hnl:n < l.length:=by omega
  obtain ⟨y,hy⟩:∃ y,l[n]? = some y:=⟨_,List.getElem?_eq_getElem hnl⟩
  have hy1:l[n]?.getD 0=y:=by rw [hy];rfl
  have hy2:∀ h:n < l.length,l[n]=y:=fun h=>Option.some.inj ((List.getElem?_eq_getElem h).symm.trans hy)
  refine calls_of Tryz.func106 en_106 rfl (of_decide_eq_true rfl) (W_run mixed ⟨[],[],[],9,H.length,[0,2],[]⟩ (fun _=>[]) (by kernel_rfl) ?_)
  simp only [Tryz.f106,stripX,stripOps,pickOps]
  simp [-V.flat,-V.one,one_int,one_bool,one_str,one_nilp,one_rp,one_nilsl,one_ro,one_cl,one_nilf,one_nili,one_ifc,one_ptr,one_sl,one_clo,flat_d,flat_ptr,flat_sl,flat_clo,flat_agg,hl,hn,w,w2,w3,hy,hy1,hy2,retQ]
  exact ⟨by omega,_,_,Fin.same (Nat.le_refl _),_,rfl,List.mem_of_getElem? hy,rfl⟩
set_option maxHeartbeats 4000000 in
theorem num_own (H:Heap) (C:Nat) (code:List Byt) (a s:Int) (hc:H[C]? = some (rC code a s)) (hg:Enc.good code) (h0:0≤a) (h1:a≤800000000000) :
    CallsD Tryz.prog 120 [.ptr C 3 0 0] H fun r H'=>∃ x:Int,r=.d (.int .i64 x)∧Enc.good x∧Cu H C code a 20 H':=by
  have hlt:=(List.getElem?_eq_some_iff.1 hc).1
  refine calls_of Tryz.func120 en_120 rfl (of_decide_eq_true rfl) (W_run mixed ⟨[],[],[78,103],34,H.length,[0,2,3,4,9,10,13,21,27],[10,13,21,27]⟩ (fun _=>[]) (by kernel_rfl) ?_)
  simp only [Tryz.f120,stripX,stripOps,pickOps]
  simp [-V.flat,-V.one,one_int,one_bool,one_str,one_nilp,one_rp,one_nilsl,one_ro,one_cl,one_nilf,one_nili,one_ifc,one_ptr,one_sl,one_clo,flat_d,flat_ptr,flat_sl,flat_clo,flat_agg]
  rw [aft_call]
  refine (pick_own H C code a s 7 hc hg h0 (by omega)).mono ?_
  rintro r H1 ⟨x,rfl,hx,a1,s1,ha1,rfl⟩
  have hs1:∀ P,(H.set C P)[C]? = some P:=fun P=>List.getElem?_set_self hlt
  simp [-V.flat,-V.one,one_int,one_bool,one_str,one_nilp,one_rp,one_nilsl,one_ro,one_cl,one_nilf,one_nili,one_ifc,one_ptr,one_sl,one_clo,flat_d,flat_ptr,flat_sl,flat_clo,flat_agg]
  rw [aft_call]
  refine (pick_own _ C code a1 s1 8 (hs1 _) hg (by omega) (by omega)).mono ?_
  rintro r H1 ⟨y,rfl,hy,a2,s2,ha2,rfl⟩
  rw [List.set_set]
  generalize hn:IntKind.i64.wrap (x - 2)=n
  have hng:Enc.good n:=by rw [← hn,wrap_id (by have:=hx.1;omega) (by have:=hx.1;omega)];have:=hx.1;exact ⟨by omega,by omega⟩
  have hwr:∀ m:Int,Enc.good (IntKind.i64.wrap m):=fun m=>⟨(wrap_rng m).1,(wrap_rng m).2⟩
  by_cases y0:y=0
  · simp [-V.flat,-V.one,one_int,one_bool,one_str,one_nilp,one_rp,one_nilsl,one_ro,one_cl,one_nilf,one_nili,one_ifc,one_ptr,one_sl,one_clo,flat_d,flat_ptr,flat_sl,flat_clo,flat_agg,y0]
    refine W_loopH (α:=Nat × Int × Int × Int) (fun b=>[(0,.ptr C 3 0 0),(3,.d (.int .i64 b.2.1)),(4,.d (.int .i64 b.1))]) (fun b=>H.set C (rC code b.2.2.1 b.2.2.2))
      (fun b=>b.1≤8∧Enc.good b.2.1∧a≤b.2.2.1∧b.2.2.1≤a + 4 + b.1) (fun b=>8 - b.1) (0,n,a2,s2) ?_ ⟨Nat.zero_le _,hng,by show a≤a2;omega,by show a2≤a + 4 + ((0:Nat):Int);omega⟩ ?_
    · simp
    rintro ⟨i,m,a3,s3⟩ ⟨hi,hm,ha3,hb3⟩
    simp only [] at hi hm ha3 hb3
    by_cases hi8:(i:Int) < 8
    · refine W_run mixed ⟨[],[],[78,103],34,H.length,[0,2,3,4,9,10,13,21,27],[10,13,21,27]⟩ (fun _=>[]) (by kernel_rfl) ?_
      simp only [stripX,stripOps,pickOps]
      simp [-V.flat,-V.one,one_int,one_bool,one_str,one_nilp,one_rp,one_nilsl,one_ro,one_cl,one_nilf,one_nili,one_ifc,one_ptr,one_sl,one_clo,flat_d,flat_ptr,flat_sl,flat_clo,flat_agg,hi8]
      rw [aft_call]
      refine (next_own _ C code a3 s3 (hs1 _) hg (by omega) (by omega)).mono ?_
      rintro r H1 ⟨z,s4,rfl,hz,rfl⟩
      rw [List.set_set]
      simp [-V.flat,-V.one,one_int,one_bool,one_str,one_nilp,one_rp,one_nilsl,one_ro,one_cl,one_nilf,one_nili,one_ifc,one_ptr,one_sl,one_clo,flat_d,flat_ptr,flat_sl,flat_clo,flat_agg]
      refine ⟨i + 1,_,a3 + 1,⟨by omega,hwr _,by omega,by omega⟩,by omega,⟨s4,rfl⟩,rfl,by rw [wrap_id] <;> omega⟩
    · refine W_run mixed ⟨[],[],[78,103],34,H.length,[0,2,3,4,9,10,13,21,27],[10,13,21,27]⟩ (fun _=>[]) (by kernel_rfl) ?_
      simp only [stripX,stripOps,pickOps]
      simp [-V.flat,-V.one,one_int,one_bool,one_str,one_nilp,one_rp,one_nilsl,one_ro,one_cl,one_nilf,one_nili,one_ifc,one_ptr,one_sl,one_clo,flat_d,flat_ptr,flat_sl,flat_clo,flat_agg,hi8,retQ]
      exact ⟨_,_,Fin.same (by simp),_,rfl,hm,a3,s3,⟨by omega,by omega⟩,rfl⟩
  by_cases y1:y=1
  · simp [-V.flat,-V.one,one_int,one_bool,one_str,one_nilp,one_rp,one_nilsl,one_ro,one_cl,one_nilf,one_nili,one_ifc,one_ptr,one_sl,one_clo,flat_d,flat_ptr,flat_sl,flat_clo,flat_agg,y0,y1]
    rw [aft_call]
    refine (pick_own _ C code a2 s2 64 (hs1 _) hg (by omega) (by omega)).mono ?_
    rintro r H1 ⟨z,rfl,hz,a3,s3,ha3,rfl⟩
    rw [List.set_set]
    obtain ⟨z0,z1⟩:=hz.lt (by decide)
    have wz:IntKind.u64.wrap z=z:=by show z % 2 ^ 64=z;exact Int.emod_eq_of_lt z0 (by omega)
    have hzn:¬ z < 0:=by omega
    simp [-V.flat,-V.one,one_int,one_bool,one_str,one_nilp,one_rp,one_nilsl,one_ro,one_cl,one_nilf,one_nili,one_ifc,one_ptr,one_sl,one_clo,flat_d,flat_ptr,flat_sl,flat_clo,flat_agg,wz,hzn,retQ]
    exact ⟨_,_,Fin.same (by simp),_,rfl,hwr _,a3,s3,⟨by omega,by omega⟩,rfl⟩
  by_cases y2:y=2
  · simp [-V.flat,-V.one,one_int,one_bool,one_str,one_nilp,one_rp,one_nilsl,one_ro,one_cl,one_nilf,one_nili,one_ifc,one_ptr,one_sl,one_clo,flat_d,flat_ptr,flat_sl,flat_clo,flat_agg,y0,y1,y2]
    rw [aft_call]
    refine (pick_own _ C code a2 s2 3 (hs1 _) hg (by omega) (by omega)).mono ?_
    rintro r H1 ⟨z,rfl,hz,a3,s3,ha3,rfl⟩
    rw [List.set_set]
    simp [-V.flat,-V.one,one_int,one_bool,one_str,one_nilp,one_rp,one_nilsl,one_ro,one_cl,one_nilf,one_nili,one_ifc,one_ptr,one_sl,one_clo,flat_d,flat_ptr,flat_sl,flat_clo,flat_agg,retQ]
    exact ⟨_,_,Fin.same (by simp),_,rfl,hwr _,a3,s3,⟨by omega,by omega⟩,rfl⟩
  · simp [-V.flat,-V.one,one_int,one_bool,one_str,one_nilp,one_rp,one_nilsl,one_ro,one_cl,one_nilf,one_nili,one_ifc,one_ptr,one_sl,one_clo,flat_d,flat_ptr,flat_sl,flat_clo,flat_agg,y0,y1,y2,retQ]
    exact ⟨_,_,Fin.same (by simp),_,rfl,hng,a2,s2,⟨by omega,by omega⟩,rfl⟩
end Go.Proofs.YthafdegfjadijaaGreat
