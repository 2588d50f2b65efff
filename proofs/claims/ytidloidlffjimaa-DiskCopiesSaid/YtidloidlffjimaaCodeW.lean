/- The functions whose calls come to this or to that, as the pure semantics has them. -/
import Derived.Test.YtidloidlffjimaaTie
import Derived.Test.YtidloidlffjimaaSimZ
namespace Ps
open Go Go.Proofs

def twinW_post : List POper := [EX 13 0 12, EX 14 1 12, M 5 13, M 6 14]
def twinW_l : List (Nat × Nat) := [(9, 10), (10, 15)]
def twinW_b : PCode := .clr [(15, 20)] (.region disk_Disk_Copy_2_r5)
theorem twinW_post_go (T : Tbl) (K : List Kt) (fr : Fr) (S : St) : type_of% (ops_go twinW_post.eq_1 T K fr S) := ops_go twinW_post.eq_1 T K fr S
theorem twinW_b_go (T : Tbl) (K : List Kt) (fr : Fr) (S : St) : type_of% (code_go twinW_b.eq_1 T K fr S) := code_go twinW_b.eq_1 T K fr S
theorem tie_T : tie.T = T := rfl
def twinW : PCodeFn := ⟨2, [.tmp 3],
 (.seq (.region disk_Disk_Copy_2_r0) (.seq (.clr [(7, 8)] (.region disk_Disk_Copy_2_r1)) (.seq (.rng [M 8 0] (V 8) 12 twinW_post twinW_l twinW_b) (.seq (.clr [(20, 21)] (.region disk_Disk_Copy_2_r6)) .ret)))), false⟩

def copyW_r7 : List POper := [M 24 5,M 25 0,NK' 26 25,FA 27 1 26,LD 28 27,M 30 5,M 31 0,NK' 32 31,FA 33 2 32,Q 34 (.loadb 0 false 1 (V 33))] ++
 (Q 29 (.wc [0] (V 24) [V 28]) :: Q 35 (.wc [0] (V 30) [V 34]) :: [FA 36 1 6,QN (.store 1 (V 36) (V 29)),FA 37 2 6,QN (.store 1 (V 37) (V 35)),FA 38 3 6,QN (.store 1 (V 38) (.cst .nils))])
def copyW : PCodeFn := ⟨1, [.tmp 2],
 (.seq (.region disk_Disk_Copy_r0) (.seq (.seq (.clr [(9, 17)] (.region disk_Disk_Copy_r1)) (.cond (V 17) (.seq (.region disk_Disk_Copy_r2) .ret) .skip)) (.seq (.clr [(18, 19)] (.region disk_Disk_Copy_r3)) (.seq (.clr [(19, 20)] (.region disk_Disk_Copy_r4)) (.seq (.clr [(20, 21)] (.region disk_Disk_Copy_r5)) (.seq (.clr [(21, 24)] (.region disk_Disk_Copy_r6)) (.seq (.clr [(24, 39)] (.region copyW_r7)) (.seq (.seq (.clr [(39, 42)] (.region disk_Disk_Copy_r8)) (.block 0 (.loop disk_Disk_Copy_l0))) (.seq (.region disk_Disk_Copy_r14) .ret))))))))), false⟩

def lawW_r10 : List POper := [M 63 7] ++ (Q 64 (.wc [] (.cst (.fn 462 [])) [V 63]) :: [M 12 64])
def lawW_r13 : PCode := .clr [(67, 68)] (.region law04_DiskCopies_r13)
def lawW_c : PCode := .seq (.region law04_DiskCopies_r14) (.block 2 (.loop law04_DiskCopies_l1))
def lawW : PCodeFn := ⟨3, [.tmp 6],
 (.seq (.region law04_DiskCopies_r0) (.seq (.clr [(15, 20)] (.region law04_DiskCopies_r1)) (.seq (.clr [(20, 25)] (.region law04_DiskCopies_r2)) (.seq (.seq (.clr [(25, 30)] (.region law04_DiskCopies_r3)) (.cond (V 30) (.seq (.clr [(31, 37)] (.region law04_DiskCopies_r4)) .ret) .skip)) (.seq (.seq (.region law04_DiskCopies_r5) (.block 0 (.loop law04_DiskCopies_l0))) (.seq (.clr [(63, 65)] (.region lawW_r10)) (.seq (.seq (.clr [(65, 66)] (.region law04_DiskCopies_r11)) (.cond (V 66) (.seq (.region law04_DiskCopies_r12) .ret) .skip)) (.seq lawW_r13 (.seq lawW_c (.seq (.clr [(94, 105)] (.region law04_DiskCopies_r19)) .ret)))))))))), false⟩

theorem funcTwin : tie.P.funcs[tie.fnOf 464]? = some Try.f26 := Try.func26
theorem chkTwin : chkFnW tie Try.f26 twinW = true := by kernel_rfl
theorem funcCopy : tie.P.funcs[tie.fnOf 462]? = some Try.f9 := Try.func9
theorem chkCopy : chkFnW tie Try.f9 copyW = true := by kernel_rfl
theorem funcLaw : tie.P.funcs[tie.fnOf 461]? = some Try.f3 := Try.func3
theorem chkLaw : chkFnW tie Try.f3 lawW = true := by kernel_rfl
end Ps
