-- WInvWords (what this claim uses of them)
import Derived.Test.YtehgfpfmpkmdmaaDoorYp16
import Derived.Test.YtehgfpfmpkmdmaaDoorYp12
