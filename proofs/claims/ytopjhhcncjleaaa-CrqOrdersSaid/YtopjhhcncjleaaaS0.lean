/- The table of the turned functions. -/
import Derived.Test.YtopjhhcncjleaaaLFuns
namespace Go.Proofs.Ytopjhhcncjleaaa
open Go Go.LK
def T : FuncId → Option LFun
  | 7 => some L7
  | 8 => some L8
  | 9 => some L9
  | 11 => some L11
  | 12 => some L12
  | 13 => some L13
  | 15 => some L15
  | 17 => some L17
  | 18 => some L18
  | 19 => some L19
  | 20 => some L20
  | 21 => some { L21 with iso := true }
  | 22 => some L22
  | 23 => some L23
  | 24 => some L24
  | 25 => some L25
  | 26 => some L26
  | 27 => some L27
  | 29 => some L29
  | 30 => some L30
  | 31 => some L31
  | 32 => some L32
  | 33 => some L33
  | 34 => some L34
  | 35 => some L35
  | 36 => some L36
  | 37 => some L37
  | 38 => some L38
  | 39 => some L39
  | 40 => some L40
  | 41 => some L41
  | 42 => some L42
  | 48 => some L48
  | 49 => some L49
  | 50 => some L50
  | 51 => some L51
  | 52 => some L52
  | 53 => some L53
  | 54 => some L54
  | 56 => some L56
  | 57 => some L57
  | 58 => some L58
  | 59 => some L59
  | 60 => some L60
  | 61 => some L61
  | 62 => some L62
  | 63 => some L63
  | 64 => some L64
  | 65 => some L65
  | 66 => some L66
  | 67 => some L67
  | 68 => some L68
  | 69 => some L69
  | 72 => some L72
  | 73 => some L73
  | 74 => some L74
  | 75 => some L75
  | 76 => some L76
  | 77 => some L77
  | 78 => some L78
  | 79 => some L79
  | 80 => some L80
  | 81 => some L81
  | 82 => some L82
  | 83 => some L83
  | 84 => some L84
  | 85 => some L85
  | 86 => some L86
  | 87 => some L87
  | 88 => some L88
  | 89 => some L89
  | 90 => some L90
  | 91 => some L91
  | 92 => some L92
  | 93 => some L93
  | 94 => some L94
  | 95 => some L95
  | 96 => some L96
  | 97 => some L97
  | 98 => some L98
  | 99 => some L99
  | 100 => some L100
  | 101 => some L101
  | 102 => some L102
  | 103 => some L103
  | 104 => some L104
  | 105 => some L105
  | _ => none
set_option maxRecDepth 100000 in
theorem tableOk : TableOk Try.prog T := by
  intro k f h
  unfold T at h
  split at h
  · cases h; exact ⟨_, _, c7⟩
  · cases h; exact ⟨_, _, c8⟩
  · cases h; exact ⟨_, _, c9⟩
  · cases h; exact ⟨_, _, c11⟩
  · cases h; exact ⟨_, _, c12⟩
  · cases h; exact ⟨_, _, c13⟩
  · cases h; exact ⟨_, _, c15⟩
  · cases h; exact ⟨_, _, c17⟩
  · cases h; exact ⟨_, _, c18⟩
  · cases h; exact ⟨_, _, c19⟩
  · cases h; exact ⟨_, _, c20⟩
  · cases h; exact ⟨_, _, c21⟩
  · cases h; exact ⟨_, _, c22⟩
  · cases h; exact ⟨_, _, c23⟩
  · cases h; exact ⟨_, _, c24⟩
  · cases h; exact ⟨_, _, c25⟩
  · cases h; exact ⟨_, _, c26⟩
  · cases h; exact ⟨_, _, c27⟩
  · cases h; exact ⟨_, _, c29⟩
  · cases h; exact ⟨_, _, c30⟩
  · cases h; exact ⟨_, _, c31⟩
  · cases h; exact ⟨_, _, c32⟩
  · cases h; exact ⟨_, _, c33⟩
  · cases h; exact ⟨_, _, c34⟩
  · cases h; exact ⟨_, _, c35⟩
  · cases h; exact ⟨_, _, c36⟩
  · cases h; exact ⟨_, _, c37⟩
  · cases h; exact ⟨_, _, c38⟩
  · cases h; exact ⟨_, _, c39⟩
  · cases h; exact ⟨_, _, c40⟩
  · cases h; exact ⟨_, _, c41⟩
  · cases h; exact ⟨_, _, c42⟩
  · cases h; exact ⟨_, _, c48⟩
  · cases h; exact ⟨_, _, c49⟩
  · cases h; exact ⟨_, _, c50⟩
  · cases h; exact ⟨_, _, c51⟩
  · cases h; exact ⟨_, _, c52⟩
  · cases h; exact ⟨_, _, c53⟩
  · cases h; exact ⟨_, _, c54⟩
  · cases h; exact ⟨_, _, c56⟩
  · cases h; exact ⟨_, _, c57⟩
  · cases h; exact ⟨_, _, c58⟩
  · cases h; exact ⟨_, _, c59⟩
  · cases h; exact ⟨_, _, c60⟩
  · cases h; exact ⟨_, _, c61⟩
  · cases h; exact ⟨_, _, c62⟩
  · cases h; exact ⟨_, _, c63⟩
  · cases h; exact ⟨_, _, c64⟩
  · cases h; exact ⟨_, _, c65⟩
  · cases h; exact ⟨_, _, c66⟩
  · cases h; exact ⟨_, _, c67⟩
  · cases h; exact ⟨_, _, c68⟩
  · cases h; exact ⟨_, _, c69⟩
  · cases h; exact ⟨_, _, c72⟩
  · cases h; exact ⟨_, _, c73⟩
  · cases h; exact ⟨_, _, c74⟩
  · cases h; exact ⟨_, _, c75⟩
  · cases h; exact ⟨_, _, c76⟩
  · cases h; exact ⟨_, _, c77⟩
  · cases h; exact ⟨_, _, c78⟩
  · cases h; exact ⟨_, _, c79⟩
  · cases h; exact ⟨_, _, c80⟩
  · cases h; exact ⟨_, _, c81⟩
  · cases h; exact ⟨_, _, c82⟩
  · cases h; exact ⟨_, _, c83⟩
  · cases h; exact ⟨_, _, c84⟩
  · cases h; exact ⟨_, _, c85⟩
  · cases h; exact ⟨_, _, c86⟩
  · cases h; exact ⟨_, _, c87⟩
  · cases h; exact ⟨_, _, c88⟩
  · cases h; exact ⟨_, _, c89⟩
  · cases h; exact ⟨_, _, c90⟩
  · cases h; exact ⟨_, _, c91⟩
  · cases h; exact ⟨_, _, c92⟩
  · cases h; exact ⟨_, _, c93⟩
  · cases h; exact ⟨_, _, c94⟩
  · cases h; exact ⟨_, _, c95⟩
  · cases h; exact ⟨_, _, c96⟩
  · cases h; exact ⟨_, _, c97⟩
  · cases h; exact ⟨_, _, c98⟩
  · cases h; exact ⟨_, _, c99⟩
  · cases h; exact ⟨_, _, c100⟩
  · cases h; exact ⟨_, _, c101⟩
  · cases h; exact ⟨_, _, c102⟩
  · cases h; exact ⟨_, _, c103⟩
  · cases h; exact ⟨_, _, c104⟩
  · cases h; exact ⟨_, _, c105⟩
  · cases h
end Go.Proofs.Ytopjhhcncjleaaa
