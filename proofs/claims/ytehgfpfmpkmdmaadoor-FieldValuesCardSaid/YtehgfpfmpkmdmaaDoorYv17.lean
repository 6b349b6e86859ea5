-- WInvWords (what this claim uses of them)
import Derived.Test.YtehgfpfmpkmdmaaDoorYv16
import Derived.Test.YtehgfpfmpkmdmaaDoorYv12
